import Derived.Test.YtemmhailjfdfdaaGreatAG1
import Derived.Test.YtemmhailjfdfdaaGreatFX
import Derived.Test.YtemmhailjfdfdaaGreatFY
import Derived.Test.YtemmhailjfdfdaaGreatProg
namespace Go.Q
open Go Go.Proofs
set_option maxRecDepth 10000
set_option maxHeartbeats 2000000

noncomputable def Flt.away (mode0 sign1 : Int) (odd2 : Bool) (rest3 : Int) : Option Bool :=
  letk (mode0 == (0 : Int)) fun t11 =>
  bif t11 then
    letk (rest3 == (3 : Int)) fun t13 =>
    bif t13 then
      some true
    else
      letk (rest3 == (2 : Int)) fun t16 =>
      bif t16 then
        some odd2
      else
        some false
  else
    letk (mode0 == (2 : Int)) fun t22 =>
    bif t22 then
      letk (decide (rest3 > (0 : Int))) fun t24 =>
      bif t24 then
        letk (sign1 == (1 : Int)) fun t27 =>
        some t27
      else
        some false
    else
      letk (mode0 == (3 : Int)) fun t30 =>
      bif t30 then
        letk (decide (rest3 > (0 : Int))) fun t32 =>
        bif t32 then
          letk (sign1 == (0 : Int)) fun t35 =>
          some t35
        else
          some false
      else
        some false

theorem Flt.away_ok {mode0 sign1 : Int} {odd2 : Bool} {rest3 : Int} {r : Bool} (h0 : Flt.away mode0 sign1 odd2 rest3 = some r) : Gives Tryz.prog 167 [J mode0, J sign1, .lit (.bool odd2), J rest3] (.lit (.bool r)) := by
  unfold Flt.away at h0
  refine ACalls.of_swp Tryz.func167 rfl (by decide) rfl (st0 := ⟨37, [(0, J mode0), (1, J sign1), (2, .lit (.bool odd2)), (3, J rest3)], []⟩) rfl (bwp_ok (C := []) ?_)
  obtain ⟨t11, et11, h1⟩ := letk_elim h0
  conv => whnf
  refine Nm.mk ⟨t11, et11, ?_⟩
  rcases t11 with _ | _
  · have h2 := bif_f h1
    obtain ⟨t22, et22, h3⟩ := letk_elim h2
    conv => whnf
    refine Nm.mk ⟨t22, et22, ?_⟩
    rcases t22 with _ | _
    · have h4 := bif_f h3
      obtain ⟨t30, et30, h5⟩ := letk_elim h4
      conv => whnf
      refine Nm.mk ⟨t30, et30, ?_⟩
      rcases t30 with _ | _
      · have h6 := bif_f h5
        have eh6_0 := Option.some.inj h6
        subst eh6_0
        conv => whnf
        exact Returns.pure (r := .lit (.bool false)) rfl rfl rfl rfl ⟨rfl, rfl⟩
      have h6 := bif_t h5
      obtain ⟨t32, et32, h7⟩ := letk_elim h6
      conv => whnf
      refine Nm.mk ⟨t32, et32, ?_⟩
      rcases t32 with _ | _
      · have h8 := bif_f h7
        have eh8_0 := Option.some.inj h8
        subst eh8_0
        conv => whnf
        exact Returns.pure (r := .lit (.bool false)) rfl rfl rfl rfl ⟨rfl, rfl⟩
      have h8 := bif_t h7
      obtain ⟨t35, et35, h9⟩ := letk_elim h8
      conv => whnf
      refine Nm.mk ⟨t35, et35, ?_⟩
      have eh9_0 := Option.some.inj h9
      subst eh9_0
      conv => whnf
      exact Returns.pure (r := .lit (.bool t35)) rfl rfl rfl rfl ⟨rfl, rfl⟩
    have h4 := bif_t h3
    obtain ⟨t24, et24, h5⟩ := letk_elim h4
    conv => whnf
    refine Nm.mk ⟨t24, et24, ?_⟩
    rcases t24 with _ | _
    · have h6 := bif_f h5
      have eh6_0 := Option.some.inj h6
      subst eh6_0
      conv => whnf
      exact Returns.pure (r := .lit (.bool false)) rfl rfl rfl rfl ⟨rfl, rfl⟩
    have h6 := bif_t h5
    obtain ⟨t27, et27, h7⟩ := letk_elim h6
    conv => whnf
    refine Nm.mk ⟨t27, et27, ?_⟩
    have eh7_0 := Option.some.inj h7
    subst eh7_0
    conv => whnf
    exact Returns.pure (r := .lit (.bool t27)) rfl rfl rfl rfl ⟨rfl, rfl⟩
  have h2 := bif_t h1
  obtain ⟨t13, et13, h3⟩ := letk_elim h2
  conv => whnf
  refine Nm.mk ⟨t13, et13, ?_⟩
  rcases t13 with _ | _
  · have h4 := bif_f h3
    obtain ⟨t16, et16, h5⟩ := letk_elim h4
    conv => whnf
    refine Nm.mk ⟨t16, et16, ?_⟩
    rcases t16 with _ | _
    · have h6 := bif_f h5
      have eh6_0 := Option.some.inj h6
      subst eh6_0
      conv => whnf
      exact Returns.pure (r := .lit (.bool false)) rfl rfl rfl rfl ⟨rfl, rfl⟩
    have h6 := bif_t h5
    have eh6_0 := Option.some.inj h6
    subst eh6_0
    conv => whnf
    exact Returns.pure (r := .lit (.bool odd2)) rfl rfl rfl rfl ⟨rfl, rfl⟩
  have h4 := bif_t h3
  have eh4_0 := Option.some.inj h4
  subst eh4_0
  conv => whnf
  exact Returns.pure (r := .lit (.bool true)) rfl rfl rfl rfl ⟨rfl, rfl⟩

noncomputable def Flt.shape.greatest (s0 : float.shape) (sign1 : Int) : Option Int :=
  Option.bind (Flt.shape.top (⟨s0.p, s0.w⟩ : float.shape)) fun t8 =>
  letk (IntKind.u64.wrap (t8 - (1 : Int))) fun t9 =>
  letk (IntKind.i64.wrap (s0.p - (1 : Int))) fun t12 =>
  chk (0 ≤ t12) <|
  letk (IntKind.u64.wrap ((1 : Int) * 2 ^ (min t12.toNat (IntKind.u64).bits))) fun t13 =>
  letk (IntKind.u64.wrap (t13 - (1 : Int))) fun t14 =>
  Option.bind (Flt.shape.pack (⟨s0.p, s0.w⟩ : float.shape) sign1 t9 t14) fun t15 =>
  some t15

theorem Flt.shape.greatest_ok {s0 : float.shape} {sign1 r : Int} (h0 : Flt.shape.greatest s0 sign1 = some r) : Gives Tryz.prog 202 [float.shape.enc s0, J sign1] (J r) := by
  unfold Flt.shape.greatest at h0
  refine ACalls.of_swp Tryz.func202 rfl (by decide) rfl (st0 := ⟨16, [(0, float.shape.enc s0), (1, J sign1)], []⟩) rfl (bwp_ok (C := []) ?_)
  conv => whnf
  refine Nm.mk ⟨[J s0.p, J s0.w], rfl, ?_⟩
  conv => whnf
  refine DrawB.sees (Sees.of (Weak.objs (k := 16) (keep := [0]) (frz := []) (m := 0) (ts := [(1, J sign1), (2, .ptr 0 0)]) (hs := [.box [J s0.p, J s0.w]]) rfl (by decide) rfl rfl ⟨⟨_, rfl, WO.refl rfl⟩, ⟨rfl, fun _ h => by cases h⟩⟩ ⟨.s, (.ptr _ _ 0 rfl), trivial⟩)) ?_
  refine DrawB.ofG [none, none, none, none, none, none, none, none, none, none, none, none] Tryz_mixed (by kernel_rfl) (by kernel_rfl) ?_
  conv => whnf
  refine DNodeB.of (.agg [J s0.p, J s0.w]) ?_ ?_
  · conv => whnf
    rfl
  conv => whnf
  refine DNodeB.of (J sign1) ?_ ?_
  · conv => whnf
    rfl
  conv => whnf
  refine DNodeB.of (.agg [J s0.p, J s0.w]) ?_ ?_
  · conv => whnf
    rfl
  obtain ⟨t8, et8, h1⟩ := bind_elim h0
  conv => whnf
  refine DNodeB.of (U t8) ?_ ?_
  · conv => whnf
    refine CallN.by (v := U t8) (Flt.shape.top_ok et8) rfl rfl ?_
    conv => whnf
    rfl
  obtain ⟨t9, et9, h2⟩ := letk_elim h1
  conv => whnf
  refine DNodeB.of (U t9) ?_ ?_
  · conv => whnf
    refine Nm.mk ⟨t9, et9, ?_⟩
    conv => whnf
    rfl
  conv => whnf
  refine DNodeB.of (.ptr 0 0) ?_ ?_
  · conv => whnf
    rfl
  conv => whnf
  refine DNodeB.of (J s0.p) ?_ ?_
  · conv => whnf
    rfl
  obtain ⟨t12, et12, h3⟩ := letk_elim h2
  conv => whnf
  refine DNodeB.of (J t12) ?_ ?_
  · conv => whnf
    refine Nm.mk ⟨t12, et12, ?_⟩
    conv => whnf
    rfl
  obtain ⟨ch4, h4⟩ := chk_elim h3
  obtain ⟨t13, et13, h5⟩ := letk_elim h4
  conv => whnf
  refine DNodeB.of (U t13) ?_ ?_
  · conv => whnf
    refine Side.mk ch4 ?_
    conv => whnf
    refine Nm.mk ⟨t13, et13, ?_⟩
    conv => whnf
    rfl
  obtain ⟨t14, et14, h6⟩ := letk_elim h5
  conv => whnf
  refine DNodeB.of (U t14) ?_ ?_
  · conv => whnf
    refine Nm.mk ⟨t14, et14, ?_⟩
    conv => whnf
    rfl
  obtain ⟨t15, et15, h7⟩ := bind_elim h6
  conv => whnf
  refine DNodeB.of (J t15) ?_ ?_
  · conv => whnf
    refine CallN.by (v := J t15) (Flt.shape.pack_ok et15) rfl rfl ?_
    conv => whnf
    rfl
  conv => whnf
  refine DNodeB.of (J t15) ?_ ?_
  · conv => whnf
    rfl
  have eh7_0 := Option.some.inj h7
  subst eh7_0
  conv => whnf
  exact Returns.pure (r := J t15) rfl rfl rfl rfl ⟨rfl, rfl⟩

noncomputable def Flt.shape.infinite (s0 : float.shape) (sign1 : Int) : Option Int :=
  Option.bind (Flt.shape.top (⟨s0.p, s0.w⟩ : float.shape)) fun t8 =>
  Option.bind (Flt.shape.pack (⟨s0.p, s0.w⟩ : float.shape) sign1 t8 0) fun t9 =>
  some t9

theorem Flt.shape.infinite_ok {s0 : float.shape} {sign1 r : Int} (h0 : Flt.shape.infinite s0 sign1 = some r) : Gives Tryz.prog 169 [float.shape.enc s0, J sign1] (J r) := by
  unfold Flt.shape.infinite at h0
  refine ACalls.of_swp Tryz.func169 rfl (by decide) rfl (st0 := ⟨10, [(0, float.shape.enc s0), (1, J sign1)], []⟩) rfl (bwp_ok (C := []) ?_)
  conv => whnf
  refine Nm.mk ⟨[J s0.p, J s0.w], rfl, ?_⟩
  conv => whnf
  refine DrawB.ofG [none, none, none, none, none, none] Tryz_mixed (by kernel_rfl) (by kernel_rfl) ?_
  conv => whnf
  refine DNodeB.of (.agg [J s0.p, J s0.w]) ?_ ?_
  · conv => whnf
    rfl
  conv => whnf
  refine DNodeB.of (J sign1) ?_ ?_
  · conv => whnf
    rfl
  conv => whnf
  refine DNodeB.of (.agg [J s0.p, J s0.w]) ?_ ?_
  · conv => whnf
    rfl
  obtain ⟨t8, et8, h1⟩ := bind_elim h0
  conv => whnf
  refine DNodeB.of (U t8) ?_ ?_
  · conv => whnf
    refine CallN.by (v := U t8) (Flt.shape.top_ok et8) rfl rfl ?_
    conv => whnf
    rfl
  obtain ⟨t9, et9, h2⟩ := bind_elim h1
  conv => whnf
  refine DNodeB.of (J t9) ?_ ?_
  · conv => whnf
    refine CallN.by (v := J t9) (Flt.shape.pack_ok et9) rfl rfl ?_
    conv => whnf
    rfl
  conv => whnf
  refine DNodeB.of (J t9) ?_ ?_
  · conv => whnf
    rfl
  have eh2_0 := Option.some.inj h2
  subst eh2_0
  conv => whnf
  exact Returns.pure (r := J t9) rfl rfl rfl rfl ⟨rfl, rfl⟩

noncomputable def Flt.shape.round.j4 (sign2 s4_0_2 s4_1_2 : Int) (t133 : Bool) : Option (Int × Int) :=
  bif t133 then
    Option.bind (Flt.shape.greatest (⟨s4_0_2, s4_1_2⟩ : float.shape) sign2) fun t136 =>
    some (t136, 20)
  else
    Option.bind (Flt.shape.infinite (⟨s4_0_2, s4_1_2⟩ : float.shape) sign2) fun t139 =>
    some (t139, 20)

noncomputable def Flt.shape.round.j3 (mode1 sign2 flags9 s4_0_2 s4_1_2 last11 m12_2 : Int) : Option (Int × Int) :=
  letk (IntKind.i64.wrap (s4_0_2 - (1 : Int))) fun t82 =>
  chk (0 ≤ t82) <|
  letk (IntKind.u64.wrap ((1 : Int) * 2 ^ (min t82.toNat (IntKind.u64).bits))) fun t83 =>
  letk (decide (m12_2 < t83)) fun t84 =>
  bif t84 then
    Option.bind (Flt.shape.pack (⟨s4_0_2, s4_1_2⟩ : float.shape) sign2 0 m12_2) fun t88 =>
    some (t88, flags9)
  else
    letk (IntKind.i64.wrap (last11 + s4_0_2)) fun t93 =>
    letk (IntKind.i64.wrap (t93 - (1 : Int))) fun t94 =>
    Option.bind (Flt.shape.bias (⟨s4_0_2, s4_1_2⟩ : float.shape)) fun t96 =>
    letk (IntKind.i64.wrap (t94 + t96)) fun t97 =>
    Option.bind (Flt.shape.top (⟨s4_0_2, s4_1_2⟩ : float.shape)) fun t100 =>
    letk (IntKind.i64.wrap t100) fun t101 =>
    letk (decide (t97 < t101)) fun t102 =>
    bif t102 then
      letk (IntKind.u64.wrap t97) fun t106 =>
      letk (IntKind.i64.wrap (s4_0_2 - (1 : Int))) fun t110 =>
      chk (0 ≤ t110) <|
      letk (IntKind.u64.wrap ((1 : Int) * 2 ^ (min t110.toNat (IntKind.u64).bits))) fun t111 =>
      letk (IntKind.u64.wrap (t111 - (1 : Int))) fun t112 =>
      letk (IntKind.u64.wrap (BitVec.ofInt (IntKind.u64).bits m12_2 &&& BitVec.ofInt (IntKind.u64).bits t112).toNat) fun t113 =>
      Option.bind (Flt.shape.pack (⟨s4_0_2, s4_1_2⟩ : float.shape) sign2 t106 t113) fun t114 =>
      some (t114, flags9)
    else
      letk (mode1 == (1 : Int)) fun t117 =>
      bif t117 then
        Flt.shape.round.j4 sign2 s4_0_2 s4_1_2 true
      else
        letk (mode1 == (2 : Int)) fun t120 =>
        bif t120 then
          letk (sign2 == (0 : Int)) fun t123 =>
          bif t123 then
            Flt.shape.round.j4 sign2 s4_0_2 s4_1_2 true
          else
            letk (mode1 == (3 : Int)) fun t128_1 =>
            bif t128_1 then
              letk (sign2 == (1 : Int)) fun t131_1 =>
              Flt.shape.round.j4 sign2 s4_0_2 s4_1_2 t131_1
            else
              Flt.shape.round.j4 sign2 s4_0_2 s4_1_2 false
        else
          letk (mode1 == (3 : Int)) fun t128 =>
          bif t128 then
            letk (sign2 == (1 : Int)) fun t131 =>
            Flt.shape.round.j4 sign2 s4_0_2 s4_1_2 t131
          else
            Flt.shape.round.j4 sign2 s4_0_2 s4_1_2 false

noncomputable def Flt.shape.round.j2 (mode1 sign2 t28 flags9 s4_0_2 s4_1_2 m12_1 : Int) : Option (Int × Int) :=
  chk (0 ≤ s4_0_2) <|
  letk (IntKind.u64.wrap ((1 : Int) * 2 ^ (min s4_0_2.toNat (IntKind.u64).bits))) fun t73 =>
  letk (m12_1 == t73) fun t74 =>
  bif t74 then
    chk (0 ≤ (1 : Int)) <|
    letk ((IntKind.u64, m12_1.fdiv (2 ^ (min (1 : Int).toNat (IntKind.u64).bits))).2) fun t76 =>
    letk (IntKind.i64.wrap (t28 + (1 : Int))) fun t78 =>
    Flt.shape.round.j3 mode1 sign2 flags9 s4_0_2 s4_1_2 t78 t76
  else
    Flt.shape.round.j3 mode1 sign2 flags9 s4_0_2 s4_1_2 t28 m12_1

noncomputable def Flt.shape.round.j1 (mode1 sign2 t28 m12 rest13 s4_0_1 s4_1_1 flags9 : Int) : Option (Int × Int) :=
  letk (IntKind.u64.wrap (BitVec.ofInt (IntKind.u64).bits m12 &&& BitVec.ofInt (IntKind.u64).bits (1 : Int)).toNat) fun t64 =>
  letk (t64 == (1 : Int)) fun t65 =>
  Option.bind (Flt.away mode1 sign2 t65 rest13) fun t67 =>
  bif t67 then
    letk (IntKind.u64.wrap (m12 + (1 : Int))) fun t69 =>
    Flt.shape.round.j2 mode1 sign2 t28 flags9 s4_0_1 s4_1_1 t69
  else
    Flt.shape.round.j2 mode1 sign2 t28 flags9 s4_0_1 s4_1_1 m12

noncomputable def Flt.shape.round.j0 (mode1 sign2 t20 t28 s4_0 s4_1 m12 rest13 : Int) : Option (Int × Int) :=
  letk (decide (rest13 > (0 : Int))) fun t50 =>
  bif t50 then
    Option.bind (Flt.shape.least (⟨s4_0, s4_1⟩ : float.shape)) fun t53 =>
    letk (IntKind.i64.wrap (t53 + s4_0)) fun t56 =>
    letk (IntKind.i64.wrap (t56 - (1 : Int))) fun t57 =>
    letk (decide (t20 < t57)) fun t58 =>
    bif t58 then
      letk (IntKind.i64.wrap (BitVec.ofInt (IntKind.i64).bits (16 : Int) ||| BitVec.ofInt (IntKind.i64).bits (8 : Int)).toNat) fun t60 =>
      Flt.shape.round.j1 mode1 sign2 t28 m12 rest13 s4_0 s4_1 t60
    else
      Flt.shape.round.j1 mode1 sign2 t28 m12 rest13 s4_0 s4_1 16
  else
    Flt.shape.round.j1 mode1 sign2 t28 m12 rest13 s4_0 s4_1 0

noncomputable def Flt.shape.round (s0 : float.shape) (mode1 sign2 : Int) (x3 : float.exact) : Option (Int × Int) :=
  Option.bind (Flt.exact.long (⟨x3.hi, x3.lo, x3.e, x3.more⟩ : float.exact)) fun t18 =>
  letk (IntKind.i64.wrap (x3.e + t18)) fun t19 =>
  letk (IntKind.i64.wrap (t19 - (1 : Int))) fun t20 =>
  letk (IntKind.i64.wrap (t20 - s0.p)) fun t24 =>
  letk (IntKind.i64.wrap (t24 + (1 : Int))) fun t25 =>
  Option.bind (Flt.shape.least (⟨s0.p, s0.w⟩ : float.shape)) fun t27 =>
  letk (if t27 > t25 then t27 else t25) fun t28 =>
  letk (decide (t28 ≤ x3.e)) fun t32 =>
  bif t32 then
    letk (IntKind.i64.wrap (x3.e - t28)) fun t38 =>
    chk (0 ≤ t38) <|
    letk (IntKind.u64.wrap (x3.lo * 2 ^ (min t38.toNat (IntKind.u64).bits))) fun t39 =>
    Flt.shape.round.j0 mode1 sign2 t20 t28 s0.p s0.w t39 0
  else
    letk (IntKind.i64.wrap (t28 - x3.e)) fun t45 =>
    Option.bind (Flt.exact.right (⟨x3.hi, x3.lo, x3.e, x3.more⟩ : float.exact) t45) fun (t46_0, t46_1) =>
    Flt.shape.round.j0 mode1 sign2 t20 t28 s0.p s0.w t46_0 t46_1

theorem Flt.shape.round_ok {s0 : float.shape} {mode1 sign2 : Int} {x3 : float.exact} {r : Int × Int} (h0 : Flt.shape.round s0 mode1 sign2 x3 = some r) : Gives Tryz.prog 164 [float.shape.enc s0, J mode1, J sign2, float.exact.enc x3] (.tup [J r.1, J r.2]) := by
  unfold Flt.shape.round at h0
  refine ACalls.of_swp Tryz.func164 rfl (by decide) rfl (st0 := ⟨140, [(0, float.shape.enc s0), (1, J mode1), (2, J sign2), (3, float.exact.enc x3)], []⟩) rfl (bwp_ok (C := [(0, 8), (0, 12), (0, 14), (0, 17), (143, 47)]) ?_)
  conv => whnf
  refine Nm.mk ⟨[J s0.p, J s0.w], rfl, ?_⟩
  conv => whnf
  refine Nm.mk ⟨[U x3.hi, U x3.lo, J x3.e, .lit (.bool x3.more)], rfl, ?_⟩
  conv => whnf
  refine DrawB.ofG [none, none, none, none, none, none, none] Tryz_mixed (by kernel_rfl) (by kernel_rfl) ?_
  conv => whnf
  refine DNodeB.of (.ptr 1 2) ?_ ?_
  · conv => whnf
    rfl
  conv => whnf
  refine DNodeB.of (J x3.e) ?_ ?_
  · conv => whnf
    rfl
  conv => whnf
  refine DNodeB.of (.agg [U x3.hi, U x3.lo, J x3.e, .lit (.bool x3.more)]) ?_ ?_
  · conv => whnf
    rfl
  obtain ⟨t18, et18, h1⟩ := bind_elim h0
  conv => whnf
  refine DNodeB.of (J t18) ?_ ?_
  · conv => whnf
    refine CallN.by (v := J t18) (Flt.exact.long_ok et18) rfl rfl ?_
    conv => whnf
    rfl
  obtain ⟨t19, et19, h2⟩ := letk_elim h1
  conv => whnf
  refine DNodeB.of (J t19) ?_ ?_
  · conv => whnf
    refine Nm.mk ⟨t19, et19, ?_⟩
    conv => whnf
    rfl
  obtain ⟨t20, et20, h3⟩ := letk_elim h2
  conv => whnf
  refine DNodeB.of (J t20) ?_ ?_
  · conv => whnf
    refine Nm.mk ⟨t20, et20, ?_⟩
    conv => whnf
    rfl
  conv => whnf
  refine DNodeB.of (J t20) ?_ ?_
  · conv => whnf
    rfl
  conv => whnf
  refine DrawB.ofG [none, none, none, none, none, none, none, none, none] Tryz_mixed (by kernel_rfl) (by kernel_rfl) ?_
  conv => whnf
  refine DNodeB.of (J t20) ?_ ?_
  · conv => whnf
    rfl
  conv => whnf
  refine DNodeB.of (.ptr 0 0) ?_ ?_
  · conv => whnf
    rfl
  conv => whnf
  refine DNodeB.of (J s0.p) ?_ ?_
  · conv => whnf
    rfl
  obtain ⟨t24, et24, h4⟩ := letk_elim h3
  conv => whnf
  refine DNodeB.of (J t24) ?_ ?_
  · conv => whnf
    refine Nm.mk ⟨t24, et24, ?_⟩
    conv => whnf
    rfl
  obtain ⟨t25, et25, h5⟩ := letk_elim h4
  conv => whnf
  refine DNodeB.of (J t25) ?_ ?_
  · conv => whnf
    refine Nm.mk ⟨t25, et25, ?_⟩
    conv => whnf
    rfl
  conv => whnf
  refine DNodeB.of (.agg [J s0.p, J s0.w]) ?_ ?_
  · conv => whnf
    rfl
  obtain ⟨t27, et27, h6⟩ := bind_elim h5
  conv => whnf
  refine DNodeB.of (J t27) ?_ ?_
  · conv => whnf
    refine CallN.by (v := J t27) (Flt.shape.least_ok et27) rfl rfl ?_
    conv => whnf
    rfl
  obtain ⟨t28, et28, h7⟩ := letk_elim h6
  conv => whnf
  refine DNodeB.of (J t28) ?_ ?_
  · conv => whnf
    refine Nm.mk ⟨t28, et28, ?_⟩
    conv => whnf
    rfl
  conv => whnf
  refine DNodeB.of (J t28) ?_ ?_
  · conv => whnf
    rfl
  conv => whnf
  refine CutN.of (fun s => ∃ (s4_0 s4_1 m12 rest13 : Int), Flt.shape.round.j0 mode1 sign2 t20 t28 s4_0 s4_1 m12 rest13 = some r ∧ s = (⟨140, [(1, J mode1), (2, J sign2), (4, .ptr 0 0), (9, J 0), (10, J t20), (11, J t28), (12, U m12), (13, J rest13)], [.box [J s4_0, J s4_1]]⟩ : St)) ?_ ?_
  · obtain ⟨t32, et32, h8⟩ := letk_elim h7
    conv => whnf
    refine Nm.mk ⟨t32, et32, ?_⟩
    rcases t32 with _ | _
    · have h9 := bif_f h8
      obtain ⟨t45, et45, h10⟩ := letk_elim h9
      conv => whnf
      refine Nm.mk ⟨t45, et45, ?_⟩
      obtain ⟨⟨t46_0, t46_1⟩, et46, h11⟩ := bind_elim h10
      conv => whnf
      refine Gate.go ?_
      conv => whnf
      refine CallN.by (v := .tup [U t46_0, J t46_1]) (Flt.exact.right_ok et46) rfl rfl ?_
      exact BackS.by ⟨_, _, _, _, h11, rfl⟩ (Sees.of (Weak.objs (keep := [0]) (frz := []) (m := 0) rfl (by decide) rfl rfl ⟨⟨_, rfl, WO.boxs ⟨.s, .s, trivial⟩⟩, ⟨rfl, fun _ h => by cases h⟩⟩ ⟨.s, .s, (.ptr _ _ 0 rfl), .s, .s, .s, .s, .s, trivial⟩))
    have h9 := bif_t h8
    obtain ⟨t38, et38, h10⟩ := letk_elim h9
    conv => whnf
    refine Nm.mk ⟨t38, et38, ?_⟩
    obtain ⟨ch11, h11⟩ := chk_elim h10
    obtain ⟨t39, et39, h12⟩ := letk_elim h11
    conv => whnf
    refine Side.mk ch11 ?_
    conv => whnf
    refine Nm.mk ⟨t39, et39, ?_⟩
    exact BackS.by ⟨_, _, _, _, h12, rfl⟩ (Sees.of (Weak.objs (keep := [0]) (frz := []) (m := 0) rfl (by decide) rfl rfl ⟨⟨_, rfl, WO.boxs ⟨.s, .s, trivial⟩⟩, ⟨rfl, fun _ h => by cases h⟩⟩ ⟨.s, .s, (.ptr _ _ 0 rfl), .s, .s, .s, .s, .s, trivial⟩))
  rintro s ⟨s4_0, s4_1, m12, rest13, hj0, rfl⟩
  unfold Flt.shape.round.j0 at hj0
  conv => whnf
  refine CutN.of (fun s => ∃ (s4_0_1 s4_1_1 flags9 : Int), Flt.shape.round.j1 mode1 sign2 t28 m12 rest13 s4_0_1 s4_1_1 flags9 = some r ∧ s = (⟨140, [(1, J mode1), (2, J sign2), (4, .ptr 0 0), (9, J flags9), (11, J t28), (12, U m12), (13, J rest13)], [.box [J s4_0_1, J s4_1_1]]⟩ : St)) ?_ ?_
  · obtain ⟨t50, et50, hj1⟩ := letk_elim hj0
    conv => whnf
    refine Nm.mk ⟨t50, et50, ?_⟩
    rcases t50 with _ | _
    · have hj2 := bif_f hj1
      exact BackS.by ⟨_, _, _, hj2, rfl⟩ (Sees.of (Weak.objs (keep := [0]) (frz := []) (m := 0) rfl (by decide) rfl rfl ⟨⟨_, rfl, WO.boxs ⟨.s, .s, trivial⟩⟩, ⟨rfl, fun _ h => by cases h⟩⟩ ⟨.s, .s, (.ptr _ _ 0 rfl), .s, .s, .s, .s, trivial⟩))
    have hj2 := bif_t hj1
    conv => whnf
    refine DrawB.ofG [none, none, none, none, none, none, none, none] Tryz_mixed (by kernel_rfl) (by kernel_rfl) ?_
    conv => whnf
    refine DNodeB.of (J t20) ?_ ?_
    · conv => whnf
      rfl
    conv => whnf
    refine DNodeB.of (.agg [J s4_0, J s4_1]) ?_ ?_
    · conv => whnf
      rfl
    obtain ⟨t53, et53, hj3⟩ := bind_elim hj2
    conv => whnf
    refine DNodeB.of (J t53) ?_ ?_
    · conv => whnf
      refine CallN.by (v := J t53) (Flt.shape.least_ok et53) rfl rfl ?_
      conv => whnf
      rfl
    conv => whnf
    refine DNodeB.of (.ptr 0 0) ?_ ?_
    · conv => whnf
      rfl
    conv => whnf
    refine DNodeB.of (J s4_0) ?_ ?_
    · conv => whnf
      rfl
    obtain ⟨t56, et56, hj4⟩ := letk_elim hj3
    conv => whnf
    refine DNodeB.of (J t56) ?_ ?_
    · conv => whnf
      refine Nm.mk ⟨t56, et56, ?_⟩
      conv => whnf
      rfl
    obtain ⟨t57, et57, hj5⟩ := letk_elim hj4
    conv => whnf
    refine DNodeB.of (J t57) ?_ ?_
    · conv => whnf
      refine Nm.mk ⟨t57, et57, ?_⟩
      conv => whnf
      rfl
    obtain ⟨t58, et58, hj6⟩ := letk_elim hj5
    conv => whnf
    refine DNodeB.of (.lit (.bool t58)) ?_ ?_
    · conv => whnf
      refine Nm.mk ⟨t58, et58, ?_⟩
      conv => whnf
      rfl
    rcases t58 with _ | _
    · have hj7 := bif_f hj6
      exact BackS.by ⟨_, _, _, hj7, rfl⟩ (Sees.of (Weak.objs (keep := [0]) (frz := []) (m := 0) rfl (by decide) rfl rfl ⟨⟨_, rfl, WO.boxs ⟨.s, .s, trivial⟩⟩, ⟨rfl, fun _ h => by cases h⟩⟩ ⟨.s, .s, (.ptr _ _ 0 rfl), .s, .s, .s, .s, trivial⟩))
    have hj7 := bif_t hj6
    obtain ⟨t60, et60, hj8⟩ := letk_elim hj7
    conv => whnf
    refine Nm.mk ⟨t60, et60, ?_⟩
    exact BackS.by ⟨_, _, _, hj8, rfl⟩ (Sees.of (Weak.objs (keep := [0]) (frz := []) (m := 0) rfl (by decide) rfl rfl ⟨⟨_, rfl, WO.boxs ⟨.s, .s, trivial⟩⟩, ⟨rfl, fun _ h => by cases h⟩⟩ ⟨.s, .s, (.ptr _ _ 0 rfl), .s, .s, .s, .s, trivial⟩))
  rintro s ⟨s4_0_1, s4_1_1, flags9, hj0, rfl⟩
  unfold Flt.shape.round.j1 at hj0
  conv => whnf
  refine CutN.of (fun s => ∃ (s4_0_2 s4_1_2 m12_1 : Int), Flt.shape.round.j2 mode1 sign2 t28 flags9 s4_0_2 s4_1_2 m12_1 = some r ∧ s = (⟨140, [(1, J mode1), (2, J sign2), (4, .ptr 0 0), (9, J flags9), (11, J t28), (12, U m12_1)], [.box [J s4_0_2, J s4_1_2]]⟩ : St)) ?_ ?_
  · obtain ⟨t64, et64, hj1⟩ := letk_elim hj0
    conv => whnf
    refine Nm.mk ⟨t64, et64, ?_⟩
    obtain ⟨t65, et65, hj2⟩ := letk_elim hj1
    conv => whnf
    refine Nm.mk ⟨t65, et65, ?_⟩
    obtain ⟨t67, et67, hj3⟩ := bind_elim hj2
    conv => whnf
    refine Gate.go ?_
    conv => whnf
    refine CallN.by (v := .lit (.bool t67)) (Flt.away_ok et67) rfl rfl ?_
    rcases t67 with _ | _
    · have hj4 := bif_f hj3
      exact BackS.by ⟨_, _, _, hj4, rfl⟩ (Sees.of (Weak.objs (keep := [0]) (frz := []) (m := 0) rfl (by decide) rfl rfl ⟨⟨_, rfl, WO.boxs ⟨.s, .s, trivial⟩⟩, ⟨rfl, fun _ h => by cases h⟩⟩ ⟨.s, .s, (.ptr _ _ 0 rfl), .s, .s, .s, trivial⟩))
    have hj4 := bif_t hj3
    obtain ⟨t69, et69, hj5⟩ := letk_elim hj4
    conv => whnf
    refine Nm.mk ⟨t69, et69, ?_⟩
    exact BackS.by ⟨_, _, _, hj5, rfl⟩ (Sees.of (Weak.objs (keep := [0]) (frz := []) (m := 0) rfl (by decide) rfl rfl ⟨⟨_, rfl, WO.boxs ⟨.s, .s, trivial⟩⟩, ⟨rfl, fun _ h => by cases h⟩⟩ ⟨.s, .s, (.ptr _ _ 0 rfl), .s, .s, .s, trivial⟩))
  rintro s ⟨s4_0_2, s4_1_2, m12_1, hj0, rfl⟩
  unfold Flt.shape.round.j2 at hj0
  conv => whnf
  refine CutN.of (fun s => ∃ (last11 m12_2 : Int), Flt.shape.round.j3 mode1 sign2 flags9 s4_0_2 s4_1_2 last11 m12_2 = some r ∧ s = (⟨140, [(1, J mode1), (2, J sign2), (4, .ptr 0 0), (9, J flags9), (11, J last11), (12, U m12_2)], [.box [J s4_0_2, J s4_1_2]]⟩ : St)) ?_ ?_
  · obtain ⟨chj1, hj1⟩ := chk_elim hj0
    obtain ⟨t73, et73, hj2⟩ := letk_elim hj1
    conv => whnf
    refine Side.mk chj1 ?_
    conv => whnf
    refine Nm.mk ⟨t73, et73, ?_⟩
    obtain ⟨t74, et74, hj3⟩ := letk_elim hj2
    conv => whnf
    refine Nm.mk ⟨t74, et74, ?_⟩
    rcases t74 with _ | _
    · have hj4 := bif_f hj3
      exact BackS.by ⟨_, _, hj4, rfl⟩ (Sees.of (Weak.objs (keep := [0]) (frz := []) (m := 0) rfl (by decide) rfl rfl ⟨⟨_, rfl, WO.boxs ⟨.s, .s, trivial⟩⟩, ⟨rfl, fun _ h => by cases h⟩⟩ ⟨.s, .s, (.ptr _ _ 0 rfl), .s, .s, .s, trivial⟩))
    have hj4 := bif_t hj3
    obtain ⟨chj5, hj5⟩ := chk_elim hj4
    obtain ⟨t76, et76, hj6⟩ := letk_elim hj5
    conv => whnf
    refine Side.mk chj5 ?_
    conv => whnf
    refine Nm.mk ⟨t76, et76, ?_⟩
    obtain ⟨t78, et78, hj7⟩ := letk_elim hj6
    conv => whnf
    refine Nm.mk ⟨t78, et78, ?_⟩
    exact BackS.by ⟨_, _, hj7, rfl⟩ (Sees.of (Weak.objs (keep := [0]) (frz := []) (m := 0) rfl (by decide) rfl rfl ⟨⟨_, rfl, WO.boxs ⟨.s, .s, trivial⟩⟩, ⟨rfl, fun _ h => by cases h⟩⟩ ⟨.s, .s, (.ptr _ _ 0 rfl), .s, .s, .s, trivial⟩))
  rintro s ⟨last11, m12_2, hj0, rfl⟩
  unfold Flt.shape.round.j3 at hj0
  obtain ⟨t82, et82, hj1⟩ := letk_elim hj0
  conv => whnf
  refine Nm.mk ⟨t82, et82, ?_⟩
  obtain ⟨chj2, hj2⟩ := chk_elim hj1
  obtain ⟨t83, et83, hj3⟩ := letk_elim hj2
  conv => whnf
  refine Side.mk chj2 ?_
  conv => whnf
  refine Nm.mk ⟨t83, et83, ?_⟩
  obtain ⟨t84, et84, hj4⟩ := letk_elim hj3
  conv => whnf
  refine Nm.mk ⟨t84, et84, ?_⟩
  rcases t84 with _ | _
  · have hj5 := bif_f hj4
    conv => whnf
    refine DrawB.ofG [none, none, none, none, none, none, none, none, none] Tryz_mixed (by kernel_rfl) (by kernel_rfl) ?_
    conv => whnf
    refine DNodeB.of (J last11) ?_ ?_
    · conv => whnf
      rfl
    conv => whnf
    refine DNodeB.of (.ptr 0 0) ?_ ?_
    · conv => whnf
      rfl
    conv => whnf
    refine DNodeB.of (J s4_0_2) ?_ ?_
    · conv => whnf
      rfl
    obtain ⟨t93, et93, hj6⟩ := letk_elim hj5
    conv => whnf
    refine DNodeB.of (J t93) ?_ ?_
    · conv => whnf
      refine Nm.mk ⟨t93, et93, ?_⟩
      conv => whnf
      rfl
    obtain ⟨t94, et94, hj7⟩ := letk_elim hj6
    conv => whnf
    refine DNodeB.of (J t94) ?_ ?_
    · conv => whnf
      refine Nm.mk ⟨t94, et94, ?_⟩
      conv => whnf
      rfl
    conv => whnf
    refine DNodeB.of (.agg [J s4_0_2, J s4_1_2]) ?_ ?_
    · conv => whnf
      rfl
    obtain ⟨t96, et96, hj8⟩ := bind_elim hj7
    conv => whnf
    refine DNodeB.of (J t96) ?_ ?_
    · conv => whnf
      refine CallN.by (v := J t96) (Flt.shape.bias_ok et96) rfl rfl ?_
      conv => whnf
      rfl
    obtain ⟨t97, et97, hj9⟩ := letk_elim hj8
    conv => whnf
    refine DNodeB.of (J t97) ?_ ?_
    · conv => whnf
      refine Nm.mk ⟨t97, et97, ?_⟩
      conv => whnf
      rfl
    conv => whnf
    refine DNodeB.of (J t97) ?_ ?_
    · conv => whnf
      rfl
    obtain ⟨t100, et100, hj10⟩ := bind_elim hj9
    conv => whnf
    refine Gate.go ?_
    conv => whnf
    refine CallN.by (v := U t100) (Flt.shape.top_ok et100) rfl rfl ?_
    obtain ⟨t101, et101, hj11⟩ := letk_elim hj10
    conv => whnf
    refine Nm.mk ⟨t101, et101, ?_⟩
    obtain ⟨t102, et102, hj12⟩ := letk_elim hj11
    conv => whnf
    refine Nm.mk ⟨t102, et102, ?_⟩
    rcases t102 with _ | _
    · have hj13 := bif_f hj12
      conv => whnf
      refine CutN.of (fun s => ∃ (t133 : Bool), Flt.shape.round.j4 sign2 s4_0_2 s4_1_2 t133 = some r ∧ s = (⟨140, [(2, J sign2), (4, .ptr 0 0), (133, .lit (.bool t133))], [.box [J s4_0_2, J s4_1_2]]⟩ : St)) ?_ ?_
      · obtain ⟨t117, et117, hj14⟩ := letk_elim hj13
        conv => whnf
        refine Nm.mk ⟨t117, et117, ?_⟩
        rcases t117 with _ | _
        · have hj15 := bif_f hj14
          obtain ⟨t120, et120, hj16⟩ := letk_elim hj15
          conv => whnf
          refine Nm.mk ⟨t120, et120, ?_⟩
          rcases t120 with _ | _
          · have hj17 := bif_f hj16
            obtain ⟨t128, et128, hj18⟩ := letk_elim hj17
            conv => whnf
            refine Nm.mk ⟨t128, et128, ?_⟩
            rcases t128 with _ | _
            · have hj19 := bif_f hj18
              exact BackS.by ⟨_, hj19, rfl⟩ (Sees.of (Weak.objs (keep := [0]) (frz := []) (m := 0) rfl (by decide) rfl rfl ⟨⟨_, rfl, WO.boxs ⟨.s, .s, trivial⟩⟩, ⟨rfl, fun _ h => by cases h⟩⟩ ⟨.s, (.ptr _ _ 0 rfl), .s, trivial⟩))
            have hj19 := bif_t hj18
            obtain ⟨t131, et131, hj20⟩ := letk_elim hj19
            conv => whnf
            refine Nm.mk ⟨t131, et131, ?_⟩
            exact BackS.by ⟨_, hj20, rfl⟩ (Sees.of (Weak.objs (keep := [0]) (frz := []) (m := 0) rfl (by decide) rfl rfl ⟨⟨_, rfl, WO.boxs ⟨.s, .s, trivial⟩⟩, ⟨rfl, fun _ h => by cases h⟩⟩ ⟨.s, (.ptr _ _ 0 rfl), .s, trivial⟩))
          have hj17 := bif_t hj16
          obtain ⟨t123, et123, hj18⟩ := letk_elim hj17
          conv => whnf
          refine Nm.mk ⟨t123, et123, ?_⟩
          rcases t123 with _ | _
          · have hj19 := bif_f hj18
            obtain ⟨t128_1, et128_1, hj20⟩ := letk_elim hj19
            conv => whnf
            refine Nm.mk ⟨t128_1, et128_1, ?_⟩
            rcases t128_1 with _ | _
            · have hj21 := bif_f hj20
              exact BackS.by ⟨_, hj21, rfl⟩ (Sees.of (Weak.objs (keep := [0]) (frz := []) (m := 0) rfl (by decide) rfl rfl ⟨⟨_, rfl, WO.boxs ⟨.s, .s, trivial⟩⟩, ⟨rfl, fun _ h => by cases h⟩⟩ ⟨.s, (.ptr _ _ 0 rfl), .s, trivial⟩))
            have hj21 := bif_t hj20
            obtain ⟨t131_1, et131_1, hj22⟩ := letk_elim hj21
            conv => whnf
            refine Nm.mk ⟨t131_1, et131_1, ?_⟩
            exact BackS.by ⟨_, hj22, rfl⟩ (Sees.of (Weak.objs (keep := [0]) (frz := []) (m := 0) rfl (by decide) rfl rfl ⟨⟨_, rfl, WO.boxs ⟨.s, .s, trivial⟩⟩, ⟨rfl, fun _ h => by cases h⟩⟩ ⟨.s, (.ptr _ _ 0 rfl), .s, trivial⟩))
          have hj19 := bif_t hj18
          exact BackS.by ⟨_, hj19, rfl⟩ (Sees.of (Weak.objs (keep := [0]) (frz := []) (m := 0) rfl (by decide) rfl rfl ⟨⟨_, rfl, WO.boxs ⟨.s, .s, trivial⟩⟩, ⟨rfl, fun _ h => by cases h⟩⟩ ⟨.s, (.ptr _ _ 0 rfl), .s, trivial⟩))
        have hj15 := bif_t hj14
        exact BackS.by ⟨_, hj15, rfl⟩ (Sees.of (Weak.objs (keep := [0]) (frz := []) (m := 0) rfl (by decide) rfl rfl ⟨⟨_, rfl, WO.boxs ⟨.s, .s, trivial⟩⟩, ⟨rfl, fun _ h => by cases h⟩⟩ ⟨.s, (.ptr _ _ 0 rfl), .s, trivial⟩))
      rintro s ⟨t133, hj0, rfl⟩
      unfold Flt.shape.round.j4 at hj0
      rcases t133 with _ | _
      · have hj1 := bif_f hj0
        obtain ⟨t139, et139, hj2⟩ := bind_elim hj1
        conv => whnf
        refine Gate.go ?_
        conv => whnf
        refine CallN.by (v := J t139) (Flt.shape.infinite_ok et139) rfl rfl ?_
        have ehj2_0 := Option.some.inj hj2
        subst ehj2_0
        conv => whnf
        exact Returns.pure (r := .tup [J t139, J 20]) rfl rfl rfl rfl ⟨rfl, rfl⟩
      have hj1 := bif_t hj0
      obtain ⟨t136, et136, hj2⟩ := bind_elim hj1
      conv => whnf
      refine Gate.go ?_
      conv => whnf
      refine CallN.by (v := J t136) (Flt.shape.greatest_ok et136) rfl rfl ?_
      have ehj2_0 := Option.some.inj hj2
      subst ehj2_0
      conv => whnf
      exact Returns.pure (r := .tup [J t136, J 20]) rfl rfl rfl rfl ⟨rfl, rfl⟩
    have hj13 := bif_t hj12
    conv => whnf
    refine DrawB.sees (Sees.of (Weak.objs (k := 140) (keep := [0]) (frz := []) (m := 0) (ts := [(2, J sign2), (4, .ptr 0 0), (9, J flags9), (12, U m12_2), (14, J t97)]) (hs := [.box [J s4_0_2, J s4_1_2]]) rfl (by decide) rfl rfl ⟨⟨_, rfl, WO.refl rfl⟩, ⟨rfl, fun _ h => by cases h⟩⟩ ⟨.s, (.ptr _ _ 0 rfl), .s, .s, .s, trivial⟩)) ?_
    refine DrawB.ofG [none, none, none, none, none, none, none, none, none, none, none, none, none, none, none] Tryz_mixed (by kernel_rfl) (by kernel_rfl) ?_
    conv => whnf
    refine DNodeB.of (.agg [J s4_0_2, J s4_1_2]) ?_ ?_
    · conv => whnf
      rfl
    conv => whnf
    refine DNodeB.of (J sign2) ?_ ?_
    · conv => whnf
      rfl
    conv => whnf
    refine DNodeB.of (J t97) ?_ ?_
    · conv => whnf
      rfl
    obtain ⟨t106, et106, hj14⟩ := letk_elim hj13
    conv => whnf
    refine DNodeB.of (U t106) ?_ ?_
    · conv => whnf
      refine Nm.mk ⟨t106, et106, ?_⟩
      conv => whnf
      rfl
    conv => whnf
    refine DNodeB.of (U m12_2) ?_ ?_
    · conv => whnf
      rfl
    conv => whnf
    refine DNodeB.of (.ptr 0 0) ?_ ?_
    · conv => whnf
      rfl
    conv => whnf
    refine DNodeB.of (J s4_0_2) ?_ ?_
    · conv => whnf
      rfl
    obtain ⟨t110, et110, hj15⟩ := letk_elim hj14
    conv => whnf
    refine DNodeB.of (J t110) ?_ ?_
    · conv => whnf
      refine Nm.mk ⟨t110, et110, ?_⟩
      conv => whnf
      rfl
    obtain ⟨chj16, hj16⟩ := chk_elim hj15
    obtain ⟨t111, et111, hj17⟩ := letk_elim hj16
    conv => whnf
    refine DNodeB.of (U t111) ?_ ?_
    · conv => whnf
      refine Side.mk chj16 ?_
      conv => whnf
      refine Nm.mk ⟨t111, et111, ?_⟩
      conv => whnf
      rfl
    obtain ⟨t112, et112, hj18⟩ := letk_elim hj17
    conv => whnf
    refine DNodeB.of (U t112) ?_ ?_
    · conv => whnf
      refine Nm.mk ⟨t112, et112, ?_⟩
      conv => whnf
      rfl
    obtain ⟨t113, et113, hj19⟩ := letk_elim hj18
    conv => whnf
    refine DNodeB.of (U t113) ?_ ?_
    · conv => whnf
      refine Nm.mk ⟨t113, et113, ?_⟩
      conv => whnf
      rfl
    obtain ⟨t114, et114, hj20⟩ := bind_elim hj19
    conv => whnf
    refine DNodeB.of (J t114) ?_ ?_
    · conv => whnf
      refine CallN.by (v := J t114) (Flt.shape.pack_ok et114) rfl rfl ?_
      conv => whnf
      rfl
    conv => whnf
    refine DNodeB.of (J flags9) ?_ ?_
    · conv => whnf
      rfl
    conv => whnf
    refine DNodeB.of (J t114) ?_ ?_
    · conv => whnf
      rfl
    conv => whnf
    refine DNodeB.of (J flags9) ?_ ?_
    · conv => whnf
      rfl
    have ehj20_0 := Option.some.inj hj20
    subst ehj20_0
    conv => whnf
    exact Returns.pure (r := .tup [J t114, J flags9]) rfl rfl rfl rfl ⟨rfl, rfl⟩
  have hj5 := bif_t hj4
  obtain ⟨t88, et88, hj6⟩ := bind_elim hj5
  conv => whnf
  refine Gate.go ?_
  conv => whnf
  refine CallN.by (v := J t88) (Flt.shape.pack_ok et88) rfl rfl ?_
  have ehj6_0 := Option.some.inj hj6
  subst ehj6_0
  conv => whnf
  exact Returns.pure (r := .tup [J t88, J flags9]) rfl rfl rfl rfl ⟨rfl, rfl⟩

noncomputable def Flt.FromInt.j0 (mode1 n2 : Int) (t13_0 : float.shape) : Option (Int × Int × Int) :=
  letk (n2 == (0 : Int)) fun t37 =>
  bif t37 then
    Option.bind (Flt.shape.zero (⟨t13_0.p, t13_0.w⟩ : float.shape) 0) fun t39 =>
    some (t39, 0, 0)
  else
    letk (decide (n2 < (0 : Int))) fun t42 =>
    bif t42 then
      letk (IntKind.u64.wrap n2) fun t47 =>
      letk (IntKind.u64.wrap (0 - t47)) fun t48 =>
      Option.bind (Flt.shape.round (⟨t13_0.p, t13_0.w⟩ : float.shape) mode1 1 (⟨0, t48, 0, false⟩ : float.exact)) fun (t50_0, t50_1) =>
      some (t50_0, t50_1, 0)
    else
      letk (IntKind.u64.wrap n2) fun t30 =>
      Option.bind (Flt.shape.round (⟨t13_0.p, t13_0.w⟩ : float.shape) mode1 0 (⟨0, t30, 0, false⟩ : float.exact)) fun (t32_0, t32_1) =>
      some (t32_0, t32_1, 0)

noncomputable def Flt.FromInt (kind0 mode1 n2 : Int) : Option (Int × Int × Int) :=
  Option.bind (Flt.of kind0) fun (t13_0, t13_1) =>
  letk (!t13_1) fun t17 =>
  bif t17 then
    some (0, 0, 2)
  else
    letk (decide (mode1 < (0 : Int))) fun t20 =>
    bif t20 then
      some (0, 0, 2)
    else
      letk (decide (mode1 ≥ (4 : Int))) fun t24 =>
      bif t24 then
        some (0, 0, 2)
      else
        Flt.FromInt.j0 mode1 n2 t13_0

theorem Flt.FromInt_ok {kind0 mode1 n2 : Int} {r : Int × Int × Int} (h0 : Flt.FromInt kind0 mode1 n2 = some r) : Gives Tryz.prog 121 [J kind0, J mode1, J n2] (.tup [J r.1, J r.2.1, J r.2.2]) := by
  unfold Flt.FromInt at h0
  refine ACalls.of_swp Tryz.func121 rfl (by decide) rfl (st0 := ⟨55, [(0, J kind0), (1, J mode1), (2, J n2)], []⟩) rfl (bwp_ok (C := [(1, 0)]) ?_)
  obtain ⟨⟨t13_0, t13_1⟩, et13, h1⟩ := bind_elim h0
  conv => whnf
  refine Gate.go ?_
  conv => whnf
  refine CallN.by (v := .tup [float.shape.enc t13_0, .lit (.bool t13_1)]) (Flt.of_ok et13) rfl rfl ?_
  conv => whnf
  refine Nm.mk ⟨[J 0, J 0], rfl, ?_⟩
  conv => whnf
  refine Nm.mk ⟨[J t13_0.p, J t13_0.w], rfl, ?_⟩
  conv => whnf
  refine CutN.of (fun s => Flt.FromInt.j0 mode1 n2 t13_0 = some r ∧ s = (⟨55, [(1, J mode1), (2, J n2), (9, .ptr 0 0)], [.box [J t13_0.p, J t13_0.w]]⟩ : St)) ?_ ?_
  · obtain ⟨t17, et17, h2⟩ := letk_elim h1
    conv => whnf
    refine Nm.mk ⟨t17, et17, ?_⟩
    rcases t17 with _ | _
    · have h3 := bif_f h2
      obtain ⟨t20, et20, h4⟩ := letk_elim h3
      conv => whnf
      refine Nm.mk ⟨t20, et20, ?_⟩
      rcases t20 with _ | _
      · have h5 := bif_f h4
        obtain ⟨t24, et24, h6⟩ := letk_elim h5
        conv => whnf
        refine Nm.mk ⟨t24, et24, ?_⟩
        rcases t24 with _ | _
        · have h7 := bif_f h6
          exact BackS.by ⟨h7, rfl⟩ (Sees.of (Weak.objs (keep := [0]) (frz := []) (m := 0) rfl (by decide) rfl rfl ⟨⟨_, rfl, WO.boxs ⟨.s, .s, trivial⟩⟩, ⟨rfl, fun _ h => by cases h⟩⟩ ⟨.s, .s, (.ptr _ _ 0 rfl), trivial⟩))
        have h7 := bif_t h6
        have eh7_0 := Option.some.inj h7
        subst eh7_0
        conv => whnf
        exact Returns.pure (r := .tup [J 0, J 0, J 2]) rfl rfl rfl rfl ⟨rfl, rfl⟩
      have h5 := bif_t h4
      have eh5_0 := Option.some.inj h5
      subst eh5_0
      conv => whnf
      exact Returns.pure (r := .tup [J 0, J 0, J 2]) rfl rfl rfl rfl ⟨rfl, rfl⟩
    have h3 := bif_t h2
    have eh3_0 := Option.some.inj h3
    subst eh3_0
    conv => whnf
    exact Returns.pure (r := .tup [J 0, J 0, J 2]) rfl rfl rfl rfl ⟨rfl, rfl⟩
  rintro s ⟨hj0, rfl⟩
  unfold Flt.FromInt.j0 at hj0
  obtain ⟨t37, et37, hj1⟩ := letk_elim hj0
  conv => whnf
  refine Nm.mk ⟨t37, et37, ?_⟩
  rcases t37 with _ | _
  · have hj2 := bif_f hj1
    obtain ⟨t42, et42, hj3⟩ := letk_elim hj2
    conv => whnf
    refine Nm.mk ⟨t42, et42, ?_⟩
    rcases t42 with _ | _
    · have hj4 := bif_f hj3
      obtain ⟨t30, et30, hj5⟩ := letk_elim hj4
      conv => whnf
      refine Nm.mk ⟨t30, et30, ?_⟩
      conv => whnf
      refine Gate.go ?_
      conv => whnf
      refine Nm.mk ⟨[U 0, U t30, J 0, .lit (.bool false)], rfl, ?_⟩
      obtain ⟨⟨t32_0, t32_1⟩, et32, hj6⟩ := bind_elim hj5
      conv => whnf
      refine Gate.go ?_
      conv => whnf
      refine CallN.by (v := .tup [J t32_0, J t32_1]) (Flt.shape.round_ok et32) rfl rfl ?_
      have ehj6_0 := Option.some.inj hj6
      subst ehj6_0
      conv => whnf
      exact Returns.pure (r := .tup [J t32_0, J t32_1, J 0]) rfl rfl rfl rfl ⟨rfl, rfl⟩
    have hj4 := bif_t hj3
    obtain ⟨t47, et47, hj5⟩ := letk_elim hj4
    conv => whnf
    refine Nm.mk ⟨t47, et47, ?_⟩
    obtain ⟨t48, et48, hj6⟩ := letk_elim hj5
    conv => whnf
    refine Nm.mk ⟨t48, et48, ?_⟩
    conv => whnf
    refine Gate.go ?_
    conv => whnf
    refine Nm.mk ⟨[U 0, U t48, J 0, .lit (.bool false)], rfl, ?_⟩
    obtain ⟨⟨t50_0, t50_1⟩, et50, hj7⟩ := bind_elim hj6
    conv => whnf
    refine Gate.go ?_
    conv => whnf
    refine CallN.by (v := .tup [J t50_0, J t50_1]) (Flt.shape.round_ok et50) rfl rfl ?_
    have ehj7_0 := Option.some.inj hj7
    subst ehj7_0
    conv => whnf
    exact Returns.pure (r := .tup [J t50_0, J t50_1, J 0]) rfl rfl rfl rfl ⟨rfl, rfl⟩
  have hj2 := bif_t hj1
  obtain ⟨t39, et39, hj3⟩ := bind_elim hj2
  conv => whnf
  refine Gate.go ?_
  conv => whnf
  refine CallN.by (v := J t39) (Flt.shape.zero_ok et39) rfl rfl ?_
  have ehj3_0 := Option.some.inj hj3
  subst ehj3_0
  conv => whnf
  exact Returns.pure (r := .tup [J t39, J 0, J 0]) rfl rfl rfl rfl ⟨rfl, rfl⟩

noncomputable def Flt.two.j0 (a2 b3 s8_0 s8_1 x9_0 x9_1 x9_2 x9_3 y10_0 y10_1 y10_2 y10_3 : Int) : Option (float.shape × float.number × float.number × Bool) :=
  Option.bind (Flt.shape.read (⟨s8_0, s8_1⟩ : float.shape) a2) fun (t34_0, t34_1) =>
  Option.bind (Flt.shape.read (⟨s8_0, s8_1⟩ : float.shape) b3) fun (t40_0, t40_1) =>
  bif t34_1 then
    some ((⟨s8_0, s8_1⟩ : float.shape), (⟨t34_0.class_, t34_0.sign, t34_0.m, t34_0.e⟩ : float.number), (⟨t40_0.class_, t40_0.sign, t40_0.m, t40_0.e⟩ : float.number), t40_1)
  else
    some ((⟨s8_0, s8_1⟩ : float.shape), (⟨t34_0.class_, t34_0.sign, t34_0.m, t34_0.e⟩ : float.number), (⟨t40_0.class_, t40_0.sign, t40_0.m, t40_0.e⟩ : float.number), false)

noncomputable def Flt.two.j1 (a2 b3 : Int) (t15_0 : float.shape) (t27 : Bool) : Option (float.shape × float.number × float.number × Bool) :=
  bif t27 then
    some ((⟨t15_0.p, t15_0.w⟩ : float.shape), (⟨0, 0, 0, 0⟩ : float.number), (⟨0, 0, 0, 0⟩ : float.number), false)
  else
    Flt.two.j0 a2 b3 t15_0.p t15_0.w 0 0 0 0 0 0 0 0

noncomputable def Flt.two (kind0 mode1 a2 b3 : Int) : Option (float.shape × float.number × float.number × Bool) :=
  Option.bind (Flt.of kind0) fun (t15_0, t15_1) =>
  letk (!t15_1) fun t19 =>
  bif t19 then
    Flt.two.j1 a2 b3 t15_0 true
  else
    letk (decide (mode1 < (0 : Int))) fun t22 =>
    bif t22 then
      Flt.two.j1 a2 b3 t15_0 true
    else
      letk (decide (mode1 ≥ (4 : Int))) fun t26 =>
      Flt.two.j1 a2 b3 t15_0 t26

theorem Flt.two_ok {kind0 mode1 a2 b3 : Int} {r : float.shape × float.number × float.number × Bool} (h0 : Flt.two kind0 mode1 a2 b3 = some r) : Gives Tryz.prog 165 [J kind0, J mode1, J a2, J b3] (.tup [float.shape.enc r.1, float.number.enc r.2.1, float.number.enc r.2.2.1, .lit (.bool r.2.2.2)]) := by
  unfold Flt.two at h0
  refine ACalls.of_swp Tryz.func165 rfl (by decide) rfl (st0 := ⟨50, [(0, J kind0), (1, J mode1), (2, J a2), (3, J b3)], []⟩) rfl (bwp_ok (C := [(0, 4), (37, 7)]) ?_)
  conv => whnf
  refine Nm.mk ⟨[J 0, J 0], rfl, ?_⟩
  conv => whnf
  refine Nm.mk ⟨[J 0, J 0, U 0, J 0], rfl, ?_⟩
  conv => whnf
  refine Nm.mk ⟨[J 0, J 0, U 0, J 0], rfl, ?_⟩
  obtain ⟨⟨t15_0, t15_1⟩, et15, h1⟩ := bind_elim h0
  conv => whnf
  refine Gate.go ?_
  conv => whnf
  refine CallN.by (v := .tup [float.shape.enc t15_0, .lit (.bool t15_1)]) (Flt.of_ok et15) rfl rfl ?_
  conv => whnf
  refine Nm.mk ⟨[J t15_0.p, J t15_0.w], rfl, ?_⟩
  conv => whnf
  refine CutN.of (fun s => ∃ (s8_0 s8_1 x9_0 x9_1 x9_2 x9_3 y10_0 y10_1 y10_2 y10_3 : Int), Flt.two.j0 a2 b3 s8_0 s8_1 x9_0 x9_1 x9_2 x9_3 y10_0 y10_1 y10_2 y10_3 = some r ∧ s = (⟨50, [(2, J a2), (3, J b3), (8, .ptr 0 0), (9, .ptr 1 0), (10, .ptr 2 0)], [.box [J s8_0, J s8_1], .box [J x9_0, J x9_1, U x9_2, J x9_3], .box [J y10_0, J y10_1, U y10_2, J y10_3]]⟩ : St)) ?_ ?_
  · conv => whnf
    refine CutN.of (fun s => ∃ (t27 : Bool), Flt.two.j1 a2 b3 t15_0 t27 = some r ∧ s = (⟨50, [(2, J a2), (3, J b3), (8, .ptr 0 0), (9, .ptr 1 0), (10, .ptr 2 0), (27, .lit (.bool t27))], [.box [J t15_0.p, J t15_0.w], .box [J 0, J 0, U 0, J 0], .box [J 0, J 0, U 0, J 0]]⟩ : St)) ?_ ?_
    · obtain ⟨t19, et19, h2⟩ := letk_elim h1
      conv => whnf
      refine Nm.mk ⟨t19, et19, ?_⟩
      rcases t19 with _ | _
      · have h3 := bif_f h2
        obtain ⟨t22, et22, h4⟩ := letk_elim h3
        conv => whnf
        refine Nm.mk ⟨t22, et22, ?_⟩
        rcases t22 with _ | _
        · have h5 := bif_f h4
          obtain ⟨t26, et26, h6⟩ := letk_elim h5
          conv => whnf
          refine Nm.mk ⟨t26, et26, ?_⟩
          exact BackS.by ⟨_, h6, rfl⟩ (Sees.of (Weak.objs (keep := [0, 1, 2]) (frz := []) (m := 0) rfl (by decide) rfl rfl ⟨⟨_, rfl, WO.boxs ⟨.s, .s, trivial⟩⟩, ⟨⟨_, rfl, WO.boxs ⟨.s, .s, .s, .s, trivial⟩⟩, ⟨⟨_, rfl, WO.boxs ⟨.s, .s, .s, .s, trivial⟩⟩, ⟨rfl, fun _ h => by cases h⟩⟩⟩⟩ ⟨.s, .s, (.ptr _ _ 0 rfl), (.ptr _ _ 1 rfl), (.ptr _ _ 2 rfl), .s, trivial⟩))
        have h5 := bif_t h4
        exact BackS.by ⟨_, h5, rfl⟩ (Sees.of (Weak.objs (keep := [0, 1, 2]) (frz := []) (m := 0) rfl (by decide) rfl rfl ⟨⟨_, rfl, WO.boxs ⟨.s, .s, trivial⟩⟩, ⟨⟨_, rfl, WO.boxs ⟨.s, .s, .s, .s, trivial⟩⟩, ⟨⟨_, rfl, WO.boxs ⟨.s, .s, .s, .s, trivial⟩⟩, ⟨rfl, fun _ h => by cases h⟩⟩⟩⟩ ⟨.s, .s, (.ptr _ _ 0 rfl), (.ptr _ _ 1 rfl), (.ptr _ _ 2 rfl), .s, trivial⟩))
      have h3 := bif_t h2
      exact BackS.by ⟨_, h3, rfl⟩ (Sees.of (Weak.objs (keep := [0, 1, 2]) (frz := []) (m := 0) rfl (by decide) rfl rfl ⟨⟨_, rfl, WO.boxs ⟨.s, .s, trivial⟩⟩, ⟨⟨_, rfl, WO.boxs ⟨.s, .s, .s, .s, trivial⟩⟩, ⟨⟨_, rfl, WO.boxs ⟨.s, .s, .s, .s, trivial⟩⟩, ⟨rfl, fun _ h => by cases h⟩⟩⟩⟩ ⟨.s, .s, (.ptr _ _ 0 rfl), (.ptr _ _ 1 rfl), (.ptr _ _ 2 rfl), .s, trivial⟩))
    rintro s ⟨t27, hj0, rfl⟩
    unfold Flt.two.j1 at hj0
    rcases t27 with _ | _
    · have hj1 := bif_f hj0
      exact BackS.by ⟨_, _, _, _, _, _, _, _, _, _, hj1, rfl⟩ (Sees.of (Weak.objs (keep := [0, 1, 2]) (frz := []) (m := 0) rfl (by decide) rfl rfl ⟨⟨_, rfl, WO.boxs ⟨.s, .s, trivial⟩⟩, ⟨⟨_, rfl, WO.boxs ⟨.s, .s, .s, .s, trivial⟩⟩, ⟨⟨_, rfl, WO.boxs ⟨.s, .s, .s, .s, trivial⟩⟩, ⟨rfl, fun _ h => by cases h⟩⟩⟩⟩ ⟨.s, .s, (.ptr _ _ 0 rfl), (.ptr _ _ 1 rfl), (.ptr _ _ 2 rfl), trivial⟩))
    have hj1 := bif_t hj0
    conv => whnf
    refine DrawB.ofFN 0 [.box [J t15_0.p, J t15_0.w], .box [J 0, J 0, U 0, J 0], .box [J 0, J 0, U 0, J 0]] 3 3 [[0], [1], [2], [0], [1], [2], []] [[], [], [], [0], [1], [2], []] [none, none, none, none, none, none, none] Tryz_mixed (by kernel_rfl) rfl rfl rfl (by kernel_rfl) ?_
    conv => whnf
    refine FNode.rd (F := [0]) (W := []) (.agg [J t15_0.p, J t15_0.w]) ?_ rfl rfl ?_
    · conv => whnf
      rfl
    conv => whnf
    refine FNode.rd (F := [1]) (W := []) (.agg [J 0, J 0, U 0, J 0]) ?_ rfl rfl ?_
    · conv => whnf
      rfl
    conv => whnf
    refine FNode.rd (F := [2]) (W := []) (.agg [J 0, J 0, U 0, J 0]) ?_ rfl rfl ?_
    · conv => whnf
      rfl
    conv => whnf
    refine FNode.pl (F := [0]) (W := [0]) (.undef) [.box [J t15_0.p, J t15_0.w], .box [J 0, J 0, U 0, J 0], .box [J 0, J 0, U 0, J 0]] ?_ rfl rfl rfl rfl ?_
    · conv => whnf
      refine Nm.mk ⟨[J t15_0.p, J t15_0.w], rfl, ?_⟩
      conv => whnf
      rfl
    conv => whnf
    refine FNode.pl (F := [1]) (W := [1]) (.undef) [.box [J t15_0.p, J t15_0.w], .box [J 0, J 0, U 0, J 0], .box [J 0, J 0, U 0, J 0]] ?_ rfl rfl rfl rfl ?_
    · conv => whnf
      refine Nm.mk ⟨[J 0, J 0, U 0, J 0], rfl, ?_⟩
      conv => whnf
      rfl
    conv => whnf
    refine FNode.pl (F := [2]) (W := [2]) (.undef) [.box [J t15_0.p, J t15_0.w], .box [J 0, J 0, U 0, J 0], .box [J 0, J 0, U 0, J 0]] ?_ rfl rfl rfl rfl ?_
    · conv => whnf
      refine Nm.mk ⟨[J 0, J 0, U 0, J 0], rfl, ?_⟩
      conv => whnf
      rfl
    conv => whnf
    refine FNode.no (W := []) (.lit (.bool false)) ?_ rfl ?_
    · conv => whnf
      rfl
    have ehj1_0 := Option.some.inj hj1
    subst ehj1_0
    conv => whnf
    exact Returns.pure (r := .tup [float.shape.enc ((⟨t15_0.p, t15_0.w⟩ : float.shape)), float.number.enc ((⟨0, 0, 0, 0⟩ : float.number)), float.number.enc ((⟨0, 0, 0, 0⟩ : float.number)), .lit (.bool false)]) rfl rfl rfl rfl ⟨rfl, rfl⟩
  rintro s ⟨s8_0, s8_1, x9_0, x9_1, x9_2, x9_3, y10_0, y10_1, y10_2, y10_3, hj0, rfl⟩
  unfold Flt.two.j0 at hj0
  obtain ⟨⟨t34_0, t34_1⟩, et34, hj1⟩ := bind_elim hj0
  conv => whnf
  refine Gate.go ?_
  conv => whnf
  refine CallN.by (v := .tup [float.number.enc t34_0, .lit (.bool t34_1)]) (Flt.shape.read_ok et34) rfl rfl ?_
  conv => whnf
  refine Nm.mk ⟨[J t34_0.class_, J t34_0.sign, U t34_0.m, J t34_0.e], rfl, ?_⟩
  obtain ⟨⟨t40_0, t40_1⟩, et40, hj2⟩ := bind_elim hj1
  conv => whnf
  refine Gate.go ?_
  conv => whnf
  refine CallN.by (v := .tup [float.number.enc t40_0, .lit (.bool t40_1)]) (Flt.shape.read_ok et40) rfl rfl ?_
  conv => whnf
  refine Nm.mk ⟨[J t40_0.class_, J t40_0.sign, U t40_0.m, J t40_0.e], rfl, ?_⟩
  conv => whnf
  refine DrawB.ofFN 0 [.box [J s8_0, J s8_1], .box [J t34_0.class_, J t34_0.sign, U t34_0.m, J t34_0.e], .box [J t40_0.class_, J t40_0.sign, U t40_0.m, J t40_0.e]] 3 3 [[0], [1], [2], [], [], [], [], [0], [1], [2], []] [[], [], [], [], [], [], [], [0], [1], [2], []] [none, none, none, none, none, none, none, none, none, none, none] Tryz_mixed (by kernel_rfl) rfl rfl rfl (by kernel_rfl) ?_
  conv => whnf
  refine FNode.rd (F := [0]) (W := []) (.agg [J s8_0, J s8_1]) ?_ rfl rfl ?_
  · conv => whnf
    rfl
  conv => whnf
  refine FNode.rd (F := [1]) (W := []) (.agg [J t34_0.class_, J t34_0.sign, U t34_0.m, J t34_0.e]) ?_ rfl rfl ?_
  · conv => whnf
    rfl
  conv => whnf
  refine FNode.rd (F := [2]) (W := []) (.agg [J t40_0.class_, J t40_0.sign, U t40_0.m, J t40_0.e]) ?_ rfl rfl ?_
  · conv => whnf
    rfl
  conv => whnf
  refine FNode.no (W := []) (.lit (.bool t34_1)) ?_ rfl ?_
  · conv => whnf
    rfl
  conv => whnf
  refine FNode.no (W := []) (.lit (.bool t34_1)) ?_ rfl ?_
  · conv => whnf
    rfl
  rcases t34_1 with _ | _
  · have hj3 := bif_f hj2
    conv => whnf
    refine FNode.no (W := []) (.lit (.bool false)) ?_ rfl ?_
    · conv => whnf
      rfl
    conv => whnf
    refine FNode.pl (F := [0]) (W := [0]) (.undef) [.box [J s8_0, J s8_1], .box [J t34_0.class_, J t34_0.sign, U t34_0.m, J t34_0.e], .box [J t40_0.class_, J t40_0.sign, U t40_0.m, J t40_0.e]] ?_ rfl rfl rfl rfl ?_
    · conv => whnf
      refine Nm.mk ⟨[J s8_0, J s8_1], rfl, ?_⟩
      conv => whnf
      rfl
    conv => whnf
    refine FNode.pl (F := [1]) (W := [1]) (.undef) [.box [J s8_0, J s8_1], .box [J t34_0.class_, J t34_0.sign, U t34_0.m, J t34_0.e], .box [J t40_0.class_, J t40_0.sign, U t40_0.m, J t40_0.e]] ?_ rfl rfl rfl rfl ?_
    · conv => whnf
      refine Nm.mk ⟨[J t34_0.class_, J t34_0.sign, U t34_0.m, J t34_0.e], rfl, ?_⟩
      conv => whnf
      rfl
    conv => whnf
    refine FNode.pl (F := [2]) (W := [2]) (.undef) [.box [J s8_0, J s8_1], .box [J t34_0.class_, J t34_0.sign, U t34_0.m, J t34_0.e], .box [J t40_0.class_, J t40_0.sign, U t40_0.m, J t40_0.e]] ?_ rfl rfl rfl rfl ?_
    · conv => whnf
      refine Nm.mk ⟨[J t40_0.class_, J t40_0.sign, U t40_0.m, J t40_0.e], rfl, ?_⟩
      conv => whnf
      rfl
    conv => whnf
    refine FNode.no (W := []) (.lit (.bool false)) ?_ rfl ?_
    · conv => whnf
      rfl
    have ehj3_0 := Option.some.inj hj3
    subst ehj3_0
    conv => whnf
    exact Returns.pure (r := .tup [float.shape.enc ((⟨s8_0, s8_1⟩ : float.shape)), float.number.enc ((⟨t34_0.class_, t34_0.sign, t34_0.m, t34_0.e⟩ : float.number)), float.number.enc ((⟨t40_0.class_, t40_0.sign, t40_0.m, t40_0.e⟩ : float.number)), .lit (.bool false)]) rfl rfl rfl rfl ⟨rfl, rfl⟩
  have hj3 := bif_t hj2
  conv => whnf
  refine FNode.no (W := []) (.lit (.bool t40_1)) ?_ rfl ?_
  · conv => whnf
    rfl
  conv => whnf
  refine FNode.no (W := []) (.lit (.bool t40_1)) ?_ rfl ?_
  · conv => whnf
    rfl
  conv => whnf
  refine FNode.pl (F := [0]) (W := [0]) (.undef) [.box [J s8_0, J s8_1], .box [J t34_0.class_, J t34_0.sign, U t34_0.m, J t34_0.e], .box [J t40_0.class_, J t40_0.sign, U t40_0.m, J t40_0.e]] ?_ rfl rfl rfl rfl ?_
  · conv => whnf
    refine Nm.mk ⟨[J s8_0, J s8_1], rfl, ?_⟩
    conv => whnf
    rfl
  conv => whnf
  refine FNode.pl (F := [1]) (W := [1]) (.undef) [.box [J s8_0, J s8_1], .box [J t34_0.class_, J t34_0.sign, U t34_0.m, J t34_0.e], .box [J t40_0.class_, J t40_0.sign, U t40_0.m, J t40_0.e]] ?_ rfl rfl rfl rfl ?_
  · conv => whnf
    refine Nm.mk ⟨[J t34_0.class_, J t34_0.sign, U t34_0.m, J t34_0.e], rfl, ?_⟩
    conv => whnf
    rfl
  conv => whnf
  refine FNode.pl (F := [2]) (W := [2]) (.undef) [.box [J s8_0, J s8_1], .box [J t34_0.class_, J t34_0.sign, U t34_0.m, J t34_0.e], .box [J t40_0.class_, J t40_0.sign, U t40_0.m, J t40_0.e]] ?_ rfl rfl rfl rfl ?_
  · conv => whnf
    refine Nm.mk ⟨[J t40_0.class_, J t40_0.sign, U t40_0.m, J t40_0.e], rfl, ?_⟩
    conv => whnf
    rfl
  conv => whnf
  refine FNode.no (W := []) (.lit (.bool t40_1)) ?_ rfl ?_
  · conv => whnf
    rfl
  have ehj3_0 := Option.some.inj hj3
  subst ehj3_0
  conv => whnf
  exact Returns.pure (r := .tup [float.shape.enc ((⟨s8_0, s8_1⟩ : float.shape)), float.number.enc ((⟨t34_0.class_, t34_0.sign, t34_0.m, t34_0.e⟩ : float.number)), float.number.enc ((⟨t40_0.class_, t40_0.sign, t40_0.m, t40_0.e⟩ : float.number)), .lit (.bool t40_1)]) rfl rfl rfl rfl ⟨rfl, rfl⟩

noncomputable def Flt.ToInt.j4 (x10_0_1 x10_1_1 x10_2_1 x10_3_1 m13_1 flags7_3 : Int) : Option (Int × Int × Int) :=
  letk (x10_1_1 == (1 : Int)) fun t97 =>
  bif t97 then
    letk (IntKind.u64.wrap (0 - m13_1)) fun t99 =>
    letk (IntKind.i64.wrap t99) fun t101_1 =>
    some (t101_1, flags7_3, 0)
  else
    letk (IntKind.i64.wrap m13_1) fun t101 =>
    some (t101, flags7_3, 0)

noncomputable def Flt.ToInt.j3 (rest14 x10_0_1 x10_1_1 x10_2_1 x10_3_1 m13_1 flags7_2 : Int) : Option (Int × Int × Int) :=
  letk (decide (rest14 > (0 : Int))) fun t94 =>
  bif t94 then
    Flt.ToInt.j4 x10_0_1 x10_1_1 x10_2_1 x10_3_1 m13_1 16
  else
    Flt.ToInt.j4 x10_0_1 x10_1_1 x10_2_1 x10_3_1 m13_1 flags7_2

noncomputable def Flt.ToInt.j2 (flags7_1 rest14 x10_0_1 x10_1_1 x10_2_1 x10_3_1 m13_1 : Int) : Option (Int × Int × Int) :=
  letk (decide (m13_1 > (9223372036854775808 : Int))) fun t83 =>
  bif t83 then
    some (0, 0, 10)
  else
    letk (m13_1 == (9223372036854775808 : Int)) fun t86 =>
    bif t86 then
      letk (x10_1_1 == (0 : Int)) fun t90 =>
      bif t90 then
        some (0, 0, 10)
      else
        Flt.ToInt.j3 rest14 x10_0_1 x10_1_1 x10_2_1 x10_3_1 m13_1 flags7_1
    else
      Flt.ToInt.j3 rest14 x10_0_1 x10_1_1 x10_2_1 x10_3_1 m13_1 flags7_1

noncomputable def Flt.ToInt.j1 (mode1 flags7_1 x10_0 x10_1 x10_2 x10_3 m13 rest14 : Int) : Option (Int × Int × Int) :=
  letk (IntKind.u64.wrap (BitVec.ofInt (IntKind.u64).bits m13 &&& BitVec.ofInt (IntKind.u64).bits (1 : Int)).toNat) fun t76 =>
  letk (t76 == (1 : Int)) fun t77 =>
  Option.bind (Flt.away mode1 x10_1 t77 rest14) fun t79 =>
  bif t79 then
    letk (IntKind.u64.wrap (m13 + (1 : Int))) fun t81 =>
    Flt.ToInt.j2 flags7_1 rest14 x10_0 x10_1 x10_2 x10_3 t81
  else
    Flt.ToInt.j2 flags7_1 rest14 x10_0 x10_1 x10_2 x10_3 m13

noncomputable def Flt.ToInt.j0 (mode1 : Int) (t20_1 : float.number) (flags7 : Int) : Option (Int × Int × Int) :=
  letk (decide (t20_1.e ≥ (0 : Int))) fun t50 =>
  bif t50 then
    chk (0 ≤ t20_1.e) <|
    letk (IntKind.u64.wrap (t20_1.m * 2 ^ (min t20_1.e.toNat (IntKind.u64).bits))) fun t54 =>
    chk (0 ≤ t20_1.e) <|
    letk ((IntKind.u64, t54.fdiv (2 ^ (min t20_1.e.toNat (IntKind.u64).bits))).2) fun t58 =>
    letk (t58 != t20_1.m) fun t61 =>
    bif t61 then
      some (0, 0, 10)
    else
      Flt.ToInt.j1 mode1 flags7 t20_1.class_ t20_1.sign t20_1.m t20_1.e t54 0
  else
    letk (IntKind.i64.wrap (0 - t20_1.e)) fun t68 =>
    Option.bind (Flt.exact.right (⟨0, t20_1.m, 0, false⟩ : float.exact) t68) fun (t69_0, t69_1) =>
    Flt.ToInt.j1 mode1 flags7 t20_1.class_ t20_1.sign t20_1.m t20_1.e t69_0 t69_1

noncomputable def Flt.ToInt.j5 (mode1 : Int) (t20_1 : float.number) (t28 : Bool) : Option (Int × Int × Int) :=
  bif t28 then
    some (0, 0, 10)
  else
    letk (t20_1.class_ == (0 : Int)) fun t45 =>
    bif t45 then
      some (0, 0, 0)
    else
      Flt.ToInt.j0 mode1 t20_1 0

noncomputable def Flt.ToInt (kind0 mode1 a2 : Int) : Option (Int × Int × Int) :=
  Option.bind (Flt.two kind0 mode1 a2 a2) fun (t20_0, t20_1, t20_2, t20_3) =>
  letk (!t20_3) fun t27 =>
  bif t27 then
    some (0, 0, 2)
  else
    letk (t20_1.class_ == (3 : Int)) fun t31 =>
    bif t31 then
      Flt.ToInt.j5 mode1 t20_1 true
    else
      letk (t20_1.class_ == (2 : Int)) fun t35 =>
      bif t35 then
        Flt.ToInt.j5 mode1 t20_1 true
      else
        letk (decide (t20_1.e ≥ (64 : Int))) fun t40 =>
        Flt.ToInt.j5 mode1 t20_1 t40

theorem Flt.ToInt_ok {kind0 mode1 a2 : Int} {r : Int × Int × Int} (h0 : Flt.ToInt kind0 mode1 a2 = some r) : Gives Tryz.prog 122 [J kind0, J mode1, J a2] (.tup [J r.1, J r.2.1, J r.2.2]) := by
  unfold Flt.ToInt at h0
  refine ACalls.of_swp Tryz.func122 rfl (by decide) rfl (st0 := ⟨103, [(0, J kind0), (1, J mode1), (2, J a2)], []⟩) rfl (bwp_ok (C := [(0, 8), (0, 14), (0, 16), (0, 18), (0, 20), (38, 11)]) ?_)
  obtain ⟨⟨t20_0, t20_1, t20_2, t20_3⟩, et20, h1⟩ := bind_elim h0
  conv => whnf
  refine Gate.go ?_
  conv => whnf
  refine CallN.by (v := .tup [float.shape.enc t20_0, float.number.enc t20_1, float.number.enc t20_2, .lit (.bool t20_3)]) (Flt.two_ok et20) rfl rfl ?_
  conv => whnf
  refine Nm.mk ⟨[J 0, J 0], rfl, ?_⟩
  conv => whnf
  refine Nm.mk ⟨[J 0, J 0, U 0, J 0], rfl, ?_⟩
  conv => whnf
  refine Nm.mk ⟨[J 0, J 0, U 0, J 0], rfl, ?_⟩
  conv => whnf
  refine Nm.mk ⟨[J t20_0.p, J t20_0.w], rfl, ?_⟩
  conv => whnf
  refine Nm.mk ⟨[J t20_1.class_, J t20_1.sign, U t20_1.m, J t20_1.e], rfl, ?_⟩
  conv => whnf
  refine Nm.mk ⟨[J t20_2.class_, J t20_2.sign, U t20_2.m, J t20_2.e], rfl, ?_⟩
  conv => whnf
  refine CutN.of (fun s => ∃ (flags7 : Int), Flt.ToInt.j0 mode1 t20_1 flags7 = some r ∧ s = (⟨103, [(1, J mode1), (7, J flags7), (10, .ptr 0 0)], [.box [J t20_1.class_, J t20_1.sign, U t20_1.m, J t20_1.e]]⟩ : St)) ?_ ?_
  · obtain ⟨t27, et27, h2⟩ := letk_elim h1
    conv => whnf
    refine Nm.mk ⟨t27, et27, ?_⟩
    rcases t27 with _ | _
    · have h3 := bif_f h2
      conv => whnf
      refine CutN.of (fun s => ∃ (t28 : Bool), Flt.ToInt.j5 mode1 t20_1 t28 = some r ∧ s = (⟨103, [(1, J mode1), (7, J 0), (10, .ptr 0 0), (28, .lit (.bool t28))], [.box [J t20_1.class_, J t20_1.sign, U t20_1.m, J t20_1.e]]⟩ : St)) ?_ ?_
      · obtain ⟨t31, et31, h4⟩ := letk_elim h3
        conv => whnf
        refine Nm.mk ⟨t31, et31, ?_⟩
        rcases t31 with _ | _
        · have h5 := bif_f h4
          obtain ⟨t35, et35, h6⟩ := letk_elim h5
          conv => whnf
          refine Nm.mk ⟨t35, et35, ?_⟩
          rcases t35 with _ | _
          · have h7 := bif_f h6
            obtain ⟨t40, et40, h8⟩ := letk_elim h7
            conv => whnf
            refine Nm.mk ⟨t40, et40, ?_⟩
            exact BackS.by ⟨_, h8, rfl⟩ (Sees.of (Weak.objs (keep := [1]) (frz := []) (m := 0) rfl (by decide) rfl rfl ⟨⟨_, rfl, WO.boxs ⟨.s, .s, .s, .s, trivial⟩⟩, ⟨rfl, fun _ h => by cases h⟩⟩ ⟨.s, .s, (.ptr _ _ 0 rfl), .s, trivial⟩))
          have h7 := bif_t h6
          exact BackS.by ⟨_, h7, rfl⟩ (Sees.of (Weak.objs (keep := [1]) (frz := []) (m := 0) rfl (by decide) rfl rfl ⟨⟨_, rfl, WO.boxs ⟨.s, .s, .s, .s, trivial⟩⟩, ⟨rfl, fun _ h => by cases h⟩⟩ ⟨.s, .s, (.ptr _ _ 0 rfl), .s, trivial⟩))
        have h5 := bif_t h4
        exact BackS.by ⟨_, h5, rfl⟩ (Sees.of (Weak.objs (keep := [1]) (frz := []) (m := 0) rfl (by decide) rfl rfl ⟨⟨_, rfl, WO.boxs ⟨.s, .s, .s, .s, trivial⟩⟩, ⟨rfl, fun _ h => by cases h⟩⟩ ⟨.s, .s, (.ptr _ _ 0 rfl), .s, trivial⟩))
      rintro s ⟨t28, hj0, rfl⟩
      unfold Flt.ToInt.j5 at hj0
      rcases t28 with _ | _
      · have hj1 := bif_f hj0
        obtain ⟨t45, et45, hj2⟩ := letk_elim hj1
        conv => whnf
        refine Nm.mk ⟨t45, et45, ?_⟩
        rcases t45 with _ | _
        · have hj3 := bif_f hj2
          exact BackS.by ⟨_, hj3, rfl⟩ (Sees.of (Weak.objs (keep := [0]) (frz := []) (m := 0) rfl (by decide) rfl rfl ⟨⟨_, rfl, WO.boxs ⟨.s, .s, .s, .s, trivial⟩⟩, ⟨rfl, fun _ h => by cases h⟩⟩ ⟨.s, .s, (.ptr _ _ 0 rfl), trivial⟩))
        have hj3 := bif_t hj2
        have ehj3_0 := Option.some.inj hj3
        subst ehj3_0
        conv => whnf
        exact Returns.pure (r := .tup [J 0, J 0, J 0]) rfl rfl rfl rfl ⟨rfl, rfl⟩
      have hj1 := bif_t hj0
      have ehj1_0 := Option.some.inj hj1
      subst ehj1_0
      conv => whnf
      exact Returns.pure (r := .tup [J 0, J 0, J 10]) rfl rfl rfl rfl ⟨rfl, rfl⟩
    have h3 := bif_t h2
    have eh3_0 := Option.some.inj h3
    subst eh3_0
    conv => whnf
    exact Returns.pure (r := .tup [J 0, J 0, J 2]) rfl rfl rfl rfl ⟨rfl, rfl⟩
  rintro s ⟨flags7, hj0, rfl⟩
  unfold Flt.ToInt.j0 at hj0
  conv => whnf
  refine CutN.of (fun s => ∃ (flags7_1 x10_0 x10_1 x10_2 x10_3 m13 rest14 : Int), Flt.ToInt.j1 mode1 flags7_1 x10_0 x10_1 x10_2 x10_3 m13 rest14 = some r ∧ s = (⟨103, [(1, J mode1), (7, J flags7_1), (10, .ptr 0 0), (13, U m13), (14, J rest14)], [.box [J x10_0, J x10_1, U x10_2, J x10_3]]⟩ : St)) ?_ ?_
  · obtain ⟨t50, et50, hj1⟩ := letk_elim hj0
    conv => whnf
    refine Nm.mk ⟨t50, et50, ?_⟩
    rcases t50 with _ | _
    · have hj2 := bif_f hj1
      conv => whnf
      refine Gate.go ?_
      conv => whnf
      refine Nm.mk ⟨[U 0, U t20_1.m, J 0, .lit (.bool false)], rfl, ?_⟩
      obtain ⟨t68, et68, hj3⟩ := letk_elim hj2
      conv => whnf
      refine Nm.mk ⟨t68, et68, ?_⟩
      obtain ⟨⟨t69_0, t69_1⟩, et69, hj4⟩ := bind_elim hj3
      conv => whnf
      refine Gate.go ?_
      conv => whnf
      refine CallN.by (v := .tup [U t69_0, J t69_1]) (Flt.exact.right_ok et69) rfl rfl ?_
      exact BackS.by ⟨_, _, _, _, _, _, _, hj4, rfl⟩ (Sees.of (Weak.objs (keep := [0]) (frz := []) (m := 0) rfl (by decide) rfl rfl ⟨⟨_, rfl, WO.boxs ⟨.s, .s, .s, .s, trivial⟩⟩, ⟨rfl, fun _ h => by cases h⟩⟩ ⟨.s, .s, (.ptr _ _ 0 rfl), .s, .s, trivial⟩))
    have hj2 := bif_t hj1
    obtain ⟨chj3, hj3⟩ := chk_elim hj2
    obtain ⟨t54, et54, hj4⟩ := letk_elim hj3
    conv => whnf
    refine Side.mk chj3 ?_
    conv => whnf
    refine Nm.mk ⟨t54, et54, ?_⟩
    conv => whnf
    refine DrawB.ofG [none, none, none, none, none, none, none] Tryz_mixed (by kernel_rfl) (by kernel_rfl) ?_
    conv => whnf
    refine DNodeB.of (U t54) ?_ ?_
    · conv => whnf
      rfl
    conv => whnf
    refine DNodeB.of (.ptr 0 3) ?_ ?_
    · conv => whnf
      rfl
    conv => whnf
    refine DNodeB.of (J t20_1.e) ?_ ?_
    · conv => whnf
      rfl
    obtain ⟨chj5, hj5⟩ := chk_elim hj4
    obtain ⟨t58, et58, hj6⟩ := letk_elim hj5
    conv => whnf
    refine DNodeB.of (U t58) ?_ ?_
    · conv => whnf
      refine Side.mk chj5 ?_
      conv => whnf
      refine Nm.mk ⟨t58, et58, ?_⟩
      conv => whnf
      rfl
    conv => whnf
    refine DNodeB.of (.ptr 0 2) ?_ ?_
    · conv => whnf
      rfl
    conv => whnf
    refine DNodeB.of (U t20_1.m) ?_ ?_
    · conv => whnf
      rfl
    obtain ⟨t61, et61, hj7⟩ := letk_elim hj6
    conv => whnf
    refine DNodeB.of (.lit (.bool t61)) ?_ ?_
    · conv => whnf
      refine Nm.mk ⟨t61, et61, ?_⟩
      conv => whnf
      rfl
    rcases t61 with _ | _
    · have hj8 := bif_f hj7
      exact BackS.by ⟨_, _, _, _, _, _, _, hj8, rfl⟩ (Sees.of (Weak.objs (keep := [0]) (frz := []) (m := 0) rfl (by decide) rfl rfl ⟨⟨_, rfl, WO.boxs ⟨.s, .s, .s, .s, trivial⟩⟩, ⟨rfl, fun _ h => by cases h⟩⟩ ⟨.s, .s, (.ptr _ _ 0 rfl), .s, .s, trivial⟩))
    have hj8 := bif_t hj7
    have ehj8_0 := Option.some.inj hj8
    subst ehj8_0
    conv => whnf
    exact Returns.pure (r := .tup [J 0, J 0, J 10]) rfl rfl rfl rfl ⟨rfl, rfl⟩
  rintro s ⟨flags7_1, x10_0, x10_1, x10_2, x10_3, m13, rest14, hj0, rfl⟩
  unfold Flt.ToInt.j1 at hj0
  conv => whnf
  refine CutN.of (fun s => ∃ (x10_0_1 x10_1_1 x10_2_1 x10_3_1 m13_1 : Int), Flt.ToInt.j2 flags7_1 rest14 x10_0_1 x10_1_1 x10_2_1 x10_3_1 m13_1 = some r ∧ s = (⟨103, [(7, J flags7_1), (10, .ptr 0 0), (13, U m13_1), (14, J rest14)], [.box [J x10_0_1, J x10_1_1, U x10_2_1, J x10_3_1]]⟩ : St)) ?_ ?_
  · obtain ⟨t76, et76, hj1⟩ := letk_elim hj0
    conv => whnf
    refine Nm.mk ⟨t76, et76, ?_⟩
    obtain ⟨t77, et77, hj2⟩ := letk_elim hj1
    conv => whnf
    refine Nm.mk ⟨t77, et77, ?_⟩
    obtain ⟨t79, et79, hj3⟩ := bind_elim hj2
    conv => whnf
    refine Gate.go ?_
    conv => whnf
    refine CallN.by (v := .lit (.bool t79)) (Flt.away_ok et79) rfl rfl ?_
    rcases t79 with _ | _
    · have hj4 := bif_f hj3
      exact BackS.by ⟨_, _, _, _, _, hj4, rfl⟩ (Sees.of (Weak.objs (keep := [0]) (frz := []) (m := 0) rfl (by decide) rfl rfl ⟨⟨_, rfl, WO.boxs ⟨.s, .s, .s, .s, trivial⟩⟩, ⟨rfl, fun _ h => by cases h⟩⟩ ⟨.s, (.ptr _ _ 0 rfl), .s, .s, trivial⟩))
    have hj4 := bif_t hj3
    obtain ⟨t81, et81, hj5⟩ := letk_elim hj4
    conv => whnf
    refine Nm.mk ⟨t81, et81, ?_⟩
    exact BackS.by ⟨_, _, _, _, _, hj5, rfl⟩ (Sees.of (Weak.objs (keep := [0]) (frz := []) (m := 0) rfl (by decide) rfl rfl ⟨⟨_, rfl, WO.boxs ⟨.s, .s, .s, .s, trivial⟩⟩, ⟨rfl, fun _ h => by cases h⟩⟩ ⟨.s, (.ptr _ _ 0 rfl), .s, .s, trivial⟩))
  rintro s ⟨x10_0_1, x10_1_1, x10_2_1, x10_3_1, m13_1, hj0, rfl⟩
  unfold Flt.ToInt.j2 at hj0
  conv => whnf
  refine CutN.of (fun s => ∃ (flags7_2 : Int), Flt.ToInt.j3 rest14 x10_0_1 x10_1_1 x10_2_1 x10_3_1 m13_1 flags7_2 = some r ∧ s = (⟨103, [(7, J flags7_2), (10, .ptr 0 0), (13, U m13_1), (14, J rest14)], [.box [J x10_0_1, J x10_1_1, U x10_2_1, J x10_3_1]]⟩ : St)) ?_ ?_
  · obtain ⟨t83, et83, hj1⟩ := letk_elim hj0
    conv => whnf
    refine Nm.mk ⟨t83, et83, ?_⟩
    rcases t83 with _ | _
    · have hj2 := bif_f hj1
      obtain ⟨t86, et86, hj3⟩ := letk_elim hj2
      conv => whnf
      refine Nm.mk ⟨t86, et86, ?_⟩
      rcases t86 with _ | _
      · have hj4 := bif_f hj3
        exact BackS.by ⟨_, hj4, rfl⟩ (Sees.of (Weak.objs (keep := [0]) (frz := []) (m := 0) rfl (by decide) rfl rfl ⟨⟨_, rfl, WO.boxs ⟨.s, .s, .s, .s, trivial⟩⟩, ⟨rfl, fun _ h => by cases h⟩⟩ ⟨.s, (.ptr _ _ 0 rfl), .s, .s, trivial⟩))
      have hj4 := bif_t hj3
      obtain ⟨t90, et90, hj5⟩ := letk_elim hj4
      conv => whnf
      refine Nm.mk ⟨t90, et90, ?_⟩
      rcases t90 with _ | _
      · have hj6 := bif_f hj5
        exact BackS.by ⟨_, hj6, rfl⟩ (Sees.of (Weak.objs (keep := [0]) (frz := []) (m := 0) rfl (by decide) rfl rfl ⟨⟨_, rfl, WO.boxs ⟨.s, .s, .s, .s, trivial⟩⟩, ⟨rfl, fun _ h => by cases h⟩⟩ ⟨.s, (.ptr _ _ 0 rfl), .s, .s, trivial⟩))
      have hj6 := bif_t hj5
      have ehj6_0 := Option.some.inj hj6
      subst ehj6_0
      conv => whnf
      exact Returns.pure (r := .tup [J 0, J 0, J 10]) rfl rfl rfl rfl ⟨rfl, rfl⟩
    have hj2 := bif_t hj1
    have ehj2_0 := Option.some.inj hj2
    subst ehj2_0
    conv => whnf
    exact Returns.pure (r := .tup [J 0, J 0, J 10]) rfl rfl rfl rfl ⟨rfl, rfl⟩
  rintro s ⟨flags7_2, hj0, rfl⟩
  unfold Flt.ToInt.j3 at hj0
  conv => whnf
  refine CutN.of (fun s => ∃ (flags7_3 : Int), Flt.ToInt.j4 x10_0_1 x10_1_1 x10_2_1 x10_3_1 m13_1 flags7_3 = some r ∧ s = (⟨103, [(7, J flags7_3), (10, .ptr 0 0), (13, U m13_1)], [.box [J x10_0_1, J x10_1_1, U x10_2_1, J x10_3_1]]⟩ : St)) ?_ ?_
  · obtain ⟨t94, et94, hj1⟩ := letk_elim hj0
    conv => whnf
    refine Nm.mk ⟨t94, et94, ?_⟩
    rcases t94 with _ | _
    · have hj2 := bif_f hj1
      exact BackS.by ⟨_, hj2, rfl⟩ (Sees.of (Weak.objs (keep := [0]) (frz := []) (m := 0) rfl (by decide) rfl rfl ⟨⟨_, rfl, WO.boxs ⟨.s, .s, .s, .s, trivial⟩⟩, ⟨rfl, fun _ h => by cases h⟩⟩ ⟨.s, (.ptr _ _ 0 rfl), .s, trivial⟩))
    have hj2 := bif_t hj1
    exact BackS.by ⟨_, hj2, rfl⟩ (Sees.of (Weak.objs (keep := [0]) (frz := []) (m := 0) rfl (by decide) rfl rfl ⟨⟨_, rfl, WO.boxs ⟨.s, .s, .s, .s, trivial⟩⟩, ⟨rfl, fun _ h => by cases h⟩⟩ ⟨.s, (.ptr _ _ 0 rfl), .s, trivial⟩))
  rintro s ⟨flags7_3, hj0, rfl⟩
  unfold Flt.ToInt.j4 at hj0
  obtain ⟨t97, et97, hj1⟩ := letk_elim hj0
  conv => whnf
  refine Nm.mk ⟨t97, et97, ?_⟩
  rcases t97 with _ | _
  · have hj2 := bif_f hj1
    obtain ⟨t101, et101, hj3⟩ := letk_elim hj2
    conv => whnf
    refine Nm.mk ⟨t101, et101, ?_⟩
    have ehj3_0 := Option.some.inj hj3
    subst ehj3_0
    conv => whnf
    exact Returns.pure (r := .tup [J t101, J flags7_3, J 0]) rfl rfl rfl rfl ⟨rfl, rfl⟩
  have hj2 := bif_t hj1
  obtain ⟨t99, et99, hj3⟩ := letk_elim hj2
  conv => whnf
  refine Nm.mk ⟨t99, et99, ?_⟩
  obtain ⟨t101_1, et101_1, hj4⟩ := letk_elim hj3
  conv => whnf
  refine Nm.mk ⟨t101_1, et101_1, ?_⟩
  have ehj4_0 := Option.some.inj hj4
  subst ehj4_0
  conv => whnf
  exact Returns.pure (r := .tup [J t101_1, J flags7_3, J 0]) rfl rfl rfl rfl ⟨rfl, rfl⟩

noncomputable def Flt.shape.quiet (s0 : float.shape) : Option Int :=
  Option.bind (Flt.shape.top (⟨s0.p, s0.w⟩ : float.shape)) fun t5 =>
  letk (IntKind.i64.wrap (s0.p - (2 : Int))) fun t8 =>
  chk (0 ≤ t8) <|
  letk (IntKind.u64.wrap ((1 : Int) * 2 ^ (min t8.toNat (IntKind.u64).bits))) fun t9 =>
  Option.bind (Flt.shape.pack (⟨s0.p, s0.w⟩ : float.shape) 0 t5 t9) fun t10 =>
  some t10

theorem Flt.shape.quiet_ok {s0 : float.shape} {r : Int} (h0 : Flt.shape.quiet s0 = some r) : Gives Tryz.prog 168 [float.shape.enc s0] (J r) := by
  unfold Flt.shape.quiet at h0
  refine ACalls.of_swp Tryz.func168 rfl (by decide) rfl (st0 := ⟨11, [(0, float.shape.enc s0)], []⟩) rfl (bwp_ok (C := []) ?_)
  conv => whnf
  refine Nm.mk ⟨[J s0.p, J s0.w], rfl, ?_⟩
  conv => whnf
  refine DrawB.ofG [none, none, none, none, none, none, none, none, none] Tryz_mixed (by kernel_rfl) (by kernel_rfl) ?_
  conv => whnf
  refine DNodeB.of (.agg [J s0.p, J s0.w]) ?_ ?_
  · conv => whnf
    rfl
  conv => whnf
  refine DNodeB.of (.agg [J s0.p, J s0.w]) ?_ ?_
  · conv => whnf
    rfl
  obtain ⟨t5, et5, h1⟩ := bind_elim h0
  conv => whnf
  refine DNodeB.of (U t5) ?_ ?_
  · conv => whnf
    refine CallN.by (v := U t5) (Flt.shape.top_ok et5) rfl rfl ?_
    conv => whnf
    rfl
  conv => whnf
  refine DNodeB.of (.ptr 0 0) ?_ ?_
  · conv => whnf
    rfl
  conv => whnf
  refine DNodeB.of (J s0.p) ?_ ?_
  · conv => whnf
    rfl
  obtain ⟨t8, et8, h2⟩ := letk_elim h1
  conv => whnf
  refine DNodeB.of (J t8) ?_ ?_
  · conv => whnf
    refine Nm.mk ⟨t8, et8, ?_⟩
    conv => whnf
    rfl
  obtain ⟨ch3, h3⟩ := chk_elim h2
  obtain ⟨t9, et9, h4⟩ := letk_elim h3
  conv => whnf
  refine DNodeB.of (U t9) ?_ ?_
  · conv => whnf
    refine Side.mk ch3 ?_
    conv => whnf
    refine Nm.mk ⟨t9, et9, ?_⟩
    conv => whnf
    rfl
  obtain ⟨t10, et10, h5⟩ := bind_elim h4
  conv => whnf
  refine DNodeB.of (J t10) ?_ ?_
  · conv => whnf
    refine CallN.by (v := J t10) (Flt.shape.pack_ok et10) rfl rfl ?_
    conv => whnf
    rfl
  conv => whnf
  refine DNodeB.of (J t10) ?_ ?_
  · conv => whnf
    rfl
  have eh5_0 := Option.some.inj h5
  subst eh5_0
  conv => whnf
  exact Returns.pure (r := J t10) rfl rfl rfl rfl ⟨rfl, rfl⟩

noncomputable def Flt.Convert.j0 (mode2 : Int) (t22_1 : float.number) (t29_0 : float.shape) : Option (Int × Int × Int) :=
  letk (t22_1.class_ == (3 : Int)) fun t41 =>
  bif t41 then
    Option.bind (Flt.shape.quiet (⟨t29_0.p, t29_0.w⟩ : float.shape)) fun t43 =>
    some (t43, 0, 0)
  else
    letk (t22_1.class_ == (2 : Int)) fun t45 =>
    bif t45 then
      Option.bind (Flt.shape.infinite (⟨t29_0.p, t29_0.w⟩ : float.shape) t22_1.sign) fun t49 =>
      some (t49, 0, 0)
    else
      letk (t22_1.class_ == (0 : Int)) fun t51 =>
      bif t51 then
        Option.bind (Flt.shape.zero (⟨t29_0.p, t29_0.w⟩ : float.shape) t22_1.sign) fun t55 =>
        some (t55, 0, 0)
      else
        Option.bind (Flt.shape.round (⟨t29_0.p, t29_0.w⟩ : float.shape) mode2 t22_1.sign (⟨0, t22_1.m, t22_1.e, false⟩ : float.exact)) fun (t66_0, t66_1) =>
        some (t66_0, t66_1, 0)

noncomputable def Flt.Convert (from0 to1 mode2 a3 : Int) : Option (Int × Int × Int) :=
  Option.bind (Flt.two from0 mode2 a3 a3) fun (t22_0, t22_1, t22_2, t22_3) =>
  Option.bind (Flt.of to1) fun (t29_0, t29_1) =>
  letk (!t22_3) fun t33 =>
  bif t33 then
    some (0, 0, 2)
  else
    letk (!t29_1) fun t36 =>
    bif t36 then
      some (0, 0, 2)
    else
      Flt.Convert.j0 mode2 t22_1 t29_0

theorem Flt.Convert_ok {from0 to1 mode2 a3 : Int} {r : Int × Int × Int} (h0 : Flt.Convert from0 to1 mode2 a3 = some r) : Gives Tryz.prog 123 [J from0, J to1, J mode2, J a3] (.tup [J r.1, J r.2.1, J r.2.2]) := by
  unfold Flt.Convert at h0
  refine ACalls.of_swp Tryz.func123 rfl (by decide) rfl (st0 := ⟨71, [(0, J from0), (1, J to1), (2, J mode2), (3, J a3)], []⟩) rfl (bwp_ok (C := [(0, 5)]) ?_)
  obtain ⟨⟨t22_0, t22_1, t22_2, t22_3⟩, et22, h1⟩ := bind_elim h0
  conv => whnf
  refine Gate.go ?_
  conv => whnf
  refine CallN.by (v := .tup [float.shape.enc t22_0, float.number.enc t22_1, float.number.enc t22_2, .lit (.bool t22_3)]) (Flt.two_ok et22) rfl rfl ?_
  conv => whnf
  refine Nm.mk ⟨[J 0, J 0], rfl, ?_⟩
  conv => whnf
  refine Nm.mk ⟨[J 0, J 0, U 0, J 0], rfl, ?_⟩
  conv => whnf
  refine Nm.mk ⟨[J 0, J 0, U 0, J 0], rfl, ?_⟩
  conv => whnf
  refine Nm.mk ⟨[J t22_0.p, J t22_0.w], rfl, ?_⟩
  conv => whnf
  refine Nm.mk ⟨[J t22_1.class_, J t22_1.sign, U t22_1.m, J t22_1.e], rfl, ?_⟩
  conv => whnf
  refine Nm.mk ⟨[J t22_2.class_, J t22_2.sign, U t22_2.m, J t22_2.e], rfl, ?_⟩
  obtain ⟨⟨t29_0, t29_1⟩, et29, h2⟩ := bind_elim h1
  conv => whnf
  refine Gate.go ?_
  conv => whnf
  refine CallN.by (v := .tup [float.shape.enc t29_0, .lit (.bool t29_1)]) (Flt.of_ok et29) rfl rfl ?_
  conv => whnf
  refine Nm.mk ⟨[J 0, J 0], rfl, ?_⟩
  conv => whnf
  refine Nm.mk ⟨[J t29_0.p, J t29_0.w], rfl, ?_⟩
  conv => whnf
  refine CutN.of (fun s => Flt.Convert.j0 mode2 t22_1 t29_0 = some r ∧ s = (⟨71, [(2, J mode2), (12, .ptr 0 0), (15, .ptr 1 0)], [.box [J t22_1.class_, J t22_1.sign, U t22_1.m, J t22_1.e], .box [J t29_0.p, J t29_0.w]]⟩ : St)) ?_ ?_
  · obtain ⟨t33, et33, h3⟩ := letk_elim h2
    conv => whnf
    refine Nm.mk ⟨t33, et33, ?_⟩
    rcases t33 with _ | _
    · have h4 := bif_f h3
      obtain ⟨t36, et36, h5⟩ := letk_elim h4
      conv => whnf
      refine Nm.mk ⟨t36, et36, ?_⟩
      rcases t36 with _ | _
      · have h6 := bif_f h5
        exact BackS.by ⟨h6, rfl⟩ (Sees.of (Weak.objs (keep := [1, 3]) (frz := []) (m := 0) rfl (by decide) rfl rfl ⟨⟨_, rfl, WO.boxs ⟨.s, .s, .s, .s, trivial⟩⟩, ⟨⟨_, rfl, WO.boxs ⟨.s, .s, trivial⟩⟩, ⟨rfl, fun _ h => by cases h⟩⟩⟩ ⟨.s, (.ptr _ _ 0 rfl), (.ptr _ _ 1 rfl), trivial⟩))
      have h6 := bif_t h5
      have eh6_0 := Option.some.inj h6
      subst eh6_0
      conv => whnf
      exact Returns.pure (r := .tup [J 0, J 0, J 2]) rfl rfl rfl rfl ⟨rfl, rfl⟩
    have h4 := bif_t h3
    have eh4_0 := Option.some.inj h4
    subst eh4_0
    conv => whnf
    exact Returns.pure (r := .tup [J 0, J 0, J 2]) rfl rfl rfl rfl ⟨rfl, rfl⟩
  rintro s ⟨hj0, rfl⟩
  unfold Flt.Convert.j0 at hj0
  obtain ⟨t41, et41, hj1⟩ := letk_elim hj0
  conv => whnf
  refine Nm.mk ⟨t41, et41, ?_⟩
  rcases t41 with _ | _
  · have hj2 := bif_f hj1
    obtain ⟨t45, et45, hj3⟩ := letk_elim hj2
    conv => whnf
    refine Nm.mk ⟨t45, et45, ?_⟩
    rcases t45 with _ | _
    · have hj4 := bif_f hj3
      obtain ⟨t51, et51, hj5⟩ := letk_elim hj4
      conv => whnf
      refine Nm.mk ⟨t51, et51, ?_⟩
      rcases t51 with _ | _
      · have hj6 := bif_f hj5
        conv => whnf
        refine Gate.go ?_
        conv => whnf
        refine Nm.mk ⟨[U 0, U t22_1.m, J t22_1.e, .lit (.bool false)], rfl, ?_⟩
        obtain ⟨⟨t66_0, t66_1⟩, et66, hj7⟩ := bind_elim hj6
        conv => whnf
        refine Gate.go ?_
        conv => whnf
        refine CallN.by (v := .tup [J t66_0, J t66_1]) (Flt.shape.round_ok et66) rfl rfl ?_
        have ehj7_0 := Option.some.inj hj7
        subst ehj7_0
        conv => whnf
        exact Returns.pure (r := .tup [J t66_0, J t66_1, J 0]) rfl rfl rfl rfl ⟨rfl, rfl⟩
      have hj6 := bif_t hj5
      obtain ⟨t55, et55, hj7⟩ := bind_elim hj6
      conv => whnf
      refine Gate.go ?_
      conv => whnf
      refine CallN.by (v := J t55) (Flt.shape.zero_ok et55) rfl rfl ?_
      have ehj7_0 := Option.some.inj hj7
      subst ehj7_0
      conv => whnf
      exact Returns.pure (r := .tup [J t55, J 0, J 0]) rfl rfl rfl rfl ⟨rfl, rfl⟩
    have hj4 := bif_t hj3
    obtain ⟨t49, et49, hj5⟩ := bind_elim hj4
    conv => whnf
    refine Gate.go ?_
    conv => whnf
    refine CallN.by (v := J t49) (Flt.shape.infinite_ok et49) rfl rfl ?_
    have ehj5_0 := Option.some.inj hj5
    subst ehj5_0
    conv => whnf
    exact Returns.pure (r := .tup [J t49, J 0, J 0]) rfl rfl rfl rfl ⟨rfl, rfl⟩
  have hj2 := bif_t hj1
  obtain ⟨t43, et43, hj3⟩ := bind_elim hj2
  conv => whnf
  refine Gate.go ?_
  conv => whnf
  refine CallN.by (v := J t43) (Flt.shape.quiet_ok et43) rfl rfl ?_
  have ehj3_0 := Option.some.inj hj3
  subst ehj3_0
  conv => whnf
  exact Returns.pure (r := .tup [J t43, J 0, J 0]) rfl rfl rfl rfl ⟨rfl, rfl⟩

noncomputable def Arr.to.j0 (kind0 v3_0 v3_1 t4_0 t4_1 : Int) : Option (api.Value × Int) :=
  Option.bind (Arr.bytes v3_0) fun t75 =>
  Option.bind (Arr.bytes kind0) fun t77 =>
  Option.bind (Flt.Convert t75 t77 0 v3_1) fun (t80_0, t80_1, t80_2) =>
  some ((⟨kind0, t80_0⟩ : api.Value), 0)

noncomputable def Arr.to.j2 (kind0 t57_0 t4_0_2 t4_1_2 : Int) (t67 : Bool) : Option (api.Value × Int) :=
  bif t67 then
    some ((⟨0, 0⟩ : api.Value), 10)
  else
    some ((⟨kind0, t57_0⟩ : api.Value), 0)

noncomputable def Arr.to.j1 (kind0 v3_0_1 v3_1_1 t4_0_1 t4_1_1 : Int) (t21 : Bool) : Option (api.Value × Int) :=
  bif t21 then
    some ((⟨0, 0⟩ : api.Value), 70)
  else
    letk (v3_0_1 == (1 : Int)) fun t35 =>
    bif t35 then
      Option.bind (Arr.bytes kind0) fun t38 =>
      Option.bind (Flt.FromInt t38 0 v3_1_1) fun (t41_0, t41_1, t41_2) =>
      some ((⟨kind0, t41_0⟩ : api.Value), 0)
    else
      letk (kind0 == (1 : Int)) fun t50 =>
      bif t50 then
        Option.bind (Arr.bytes v3_0_1) fun t54 =>
        Option.bind (Flt.ToInt t54 1 v3_1_1) fun (t57_0, t57_1, t57_2) =>
        letk (t57_2 != (0 : Int)) fun t62 =>
        bif t62 then
          Arr.to.j2 kind0 t57_0 t4_0_1 t4_1_1 true
        else
          Option.bind (Arr.fits 1 t57_0) fun t65 =>
          letk (!t65) fun t66 =>
          Arr.to.j2 kind0 t57_0 t4_0_1 t4_1_1 t66
      else
        Arr.to.j0 kind0 v3_0_1 v3_1_1 t4_0_1 t4_1_1

noncomputable def Arr.to (kind0 : Int) (v1 : api.Value) : Option (api.Value × Int) :=
  letk (kind0 == v1.Kind) fun t19 =>
  bif t19 then
    some ((⟨v1.Kind, v1.N⟩ : api.Value), 0)
  else
    Option.bind (Arr.isNumber kind0) fun t23 =>
    letk (!t23) fun t24 =>
    bif t24 then
      Arr.to.j1 kind0 v1.Kind v1.N 0 0 true
    else
      Option.bind (Arr.isNumber v1.Kind) fun t28 =>
      letk (!t28) fun t29 =>
      Arr.to.j1 kind0 v1.Kind v1.N 0 0 t29

theorem Arr.to_ok {kind0 : Int} {v1 : api.Value} {r : api.Value × Int} (h0 : Arr.to kind0 v1 = some r) : Gives Tryz.prog 76 [J kind0, api.Value.enc v1] (.tup [api.Value.enc r.1, J r.2]) := by
  unfold Arr.to at h0
  refine ACalls.of_swp Tryz.func76 rfl (by decide) rfl (st0 := ⟨87, [(0, J kind0), (1, api.Value.enc v1)], []⟩) rfl (bwp_ok (C := [(0, 13), (31, 9), (77, 23)]) ?_)
  conv => whnf
  refine Nm.mk ⟨[J v1.Kind, J v1.N], rfl, ?_⟩
  conv => whnf
  refine Nm.mk ⟨[J 0, J 0], rfl, ?_⟩
  conv => whnf
  refine CutN.of (fun s => ∃ (v3_0 v3_1 t4_0 t4_1 : Int), Arr.to.j0 kind0 v3_0 v3_1 t4_0 t4_1 = some r ∧ s = (⟨87, [(0, J kind0), (3, .ptr 0 0), (4, .ptr 1 0)], [.box [J v3_0, J v3_1], .box [J t4_0, J t4_1]]⟩ : St)) ?_ ?_
  · obtain ⟨t19, et19, h1⟩ := letk_elim h0
    conv => whnf
    refine Nm.mk ⟨t19, et19, ?_⟩
    rcases t19 with _ | _
    · have h2 := bif_f h1
      conv => whnf
      refine CutN.of (fun s => ∃ (v3_0_1 v3_1_1 t4_0_1 t4_1_1 : Int) (t21 : Bool), Arr.to.j1 kind0 v3_0_1 v3_1_1 t4_0_1 t4_1_1 t21 = some r ∧ s = (⟨87, [(0, J kind0), (3, .ptr 0 0), (4, .ptr 1 0), (21, .lit (.bool t21))], [.box [J v3_0_1, J v3_1_1], .box [J t4_0_1, J t4_1_1]]⟩ : St)) ?_ ?_
      · obtain ⟨t23, et23, h3⟩ := bind_elim h2
        conv => whnf
        refine Gate.go ?_
        conv => whnf
        refine CallN.by (v := .lit (.bool t23)) (Arr.isNumber_ok et23) rfl rfl ?_
        obtain ⟨t24, et24, h4⟩ := letk_elim h3
        conv => whnf
        refine Nm.mk ⟨t24, et24, ?_⟩
        rcases t24 with _ | _
        · have h5 := bif_f h4
          obtain ⟨t28, et28, h6⟩ := bind_elim h5
          conv => whnf
          refine Gate.go ?_
          conv => whnf
          refine CallN.by (v := .lit (.bool t28)) (Arr.isNumber_ok et28) rfl rfl ?_
          obtain ⟨t29, et29, h7⟩ := letk_elim h6
          conv => whnf
          refine Nm.mk ⟨t29, et29, ?_⟩
          exact BackS.by ⟨_, _, _, _, _, h7, rfl⟩ (Sees.of (Weak.objs (keep := [0, 1]) (frz := []) (m := 0) rfl (by decide) rfl rfl ⟨⟨_, rfl, WO.boxs ⟨.s, .s, trivial⟩⟩, ⟨⟨_, rfl, WO.boxs ⟨.s, .s, trivial⟩⟩, ⟨rfl, fun _ h => by cases h⟩⟩⟩ ⟨.s, (.ptr _ _ 0 rfl), (.ptr _ _ 1 rfl), .s, trivial⟩))
        have h5 := bif_t h4
        exact BackS.by ⟨_, _, _, _, _, h5, rfl⟩ (Sees.of (Weak.objs (keep := [0, 1]) (frz := []) (m := 0) rfl (by decide) rfl rfl ⟨⟨_, rfl, WO.boxs ⟨.s, .s, trivial⟩⟩, ⟨⟨_, rfl, WO.boxs ⟨.s, .s, trivial⟩⟩, ⟨rfl, fun _ h => by cases h⟩⟩⟩ ⟨.s, (.ptr _ _ 0 rfl), (.ptr _ _ 1 rfl), .s, trivial⟩))
      rintro s ⟨v3_0_1, v3_1_1, t4_0_1, t4_1_1, t21, hj0, rfl⟩
      unfold Arr.to.j1 at hj0
      rcases t21 with _ | _
      · have hj1 := bif_f hj0
        obtain ⟨t35, et35, hj2⟩ := letk_elim hj1
        conv => whnf
        refine Nm.mk ⟨t35, et35, ?_⟩
        rcases t35 with _ | _
        · have hj3 := bif_f hj2
          obtain ⟨t50, et50, hj4⟩ := letk_elim hj3
          conv => whnf
          refine Nm.mk ⟨t50, et50, ?_⟩
          rcases t50 with _ | _
          · have hj5 := bif_f hj4
            exact BackS.by ⟨_, _, _, _, hj5, rfl⟩ (Sees.of (Weak.objs (keep := [0, 1]) (frz := []) (m := 0) rfl (by decide) rfl rfl ⟨⟨_, rfl, WO.boxs ⟨.s, .s, trivial⟩⟩, ⟨⟨_, rfl, WO.boxs ⟨.s, .s, trivial⟩⟩, ⟨rfl, fun _ h => by cases h⟩⟩⟩ ⟨.s, (.ptr _ _ 0 rfl), (.ptr _ _ 1 rfl), trivial⟩))
          have hj5 := bif_t hj4
          conv => whnf
          refine DrawB.sees (Sees.of (Weak.objs (k := 87) (keep := [0, 1]) (frz := []) (m := 0) (ts := [(0, J kind0), (3, .ptr 0 0), (4, .ptr 1 0)]) (hs := [.box [J v3_0_1, J v3_1_1], .box [J t4_0_1, J t4_1_1]]) rfl (by decide) rfl rfl ⟨⟨_, rfl, WO.refl rfl⟩, ⟨⟨_, rfl, WO.refl rfl⟩, ⟨rfl, fun _ h => by cases h⟩⟩⟩ ⟨.s, (.ptr _ _ 0 rfl), (.ptr _ _ 1 rfl), trivial⟩)) ?_
          refine DrawB.ofG [none, none, none, none, none, none, none, none, none, none, none, none, none] Tryz_mixed (by kernel_rfl) (by kernel_rfl) ?_
          conv => whnf
          refine DNodeB.of (.ptr 0 0) ?_ ?_
          · conv => whnf
            rfl
          conv => whnf
          refine DNodeB.of (J v3_0_1) ?_ ?_
          · conv => whnf
            rfl
          obtain ⟨t54, et54, hj6⟩ := bind_elim hj5
          conv => whnf
          refine DNodeB.of (J t54) ?_ ?_
          · conv => whnf
            refine CallN.by (v := J t54) (Arr.bytes_ok et54) rfl rfl ?_
            conv => whnf
            rfl
          conv => whnf
          refine DNodeB.of (.ptr 0 1) ?_ ?_
          · conv => whnf
            rfl
          conv => whnf
          refine DNodeB.of (J v3_1_1) ?_ ?_
          · conv => whnf
            rfl
          obtain ⟨⟨t57_0, t57_1, t57_2⟩, et57, hj7⟩ := bind_elim hj6
          conv => whnf
          refine DNodeB.of (.tup [J t57_0, J t57_1, J t57_2]) ?_ ?_
          · conv => whnf
            refine CallN.by (v := .tup [J t57_0, J t57_1, J t57_2]) (Flt.ToInt_ok et57) rfl rfl ?_
            conv => whnf
            rfl
          conv => whnf
          refine DNodeB.of (.tup [J t57_0, J t57_1, J t57_2]) ?_ ?_
          · conv => whnf
            rfl
          conv => whnf
          refine DNodeB.of (J t57_0) ?_ ?_
          · conv => whnf
            rfl
          conv => whnf
          refine DNodeB.of (J t57_1) ?_ ?_
          · conv => whnf
            rfl
          conv => whnf
          refine DNodeB.of (J t57_2) ?_ ?_
          · conv => whnf
            rfl
          conv => whnf
          refine DNodeB.of (J t57_0) ?_ ?_
          · conv => whnf
            rfl
          conv => whnf
          refine DNodeB.of (J t57_1) ?_ ?_
          · conv => whnf
            rfl
          conv => whnf
          refine DNodeB.of (J t57_2) ?_ ?_
          · conv => whnf
            rfl
          conv => whnf
          refine CutN.of (fun s => ∃ (t4_0_2 t4_1_2 : Int) (t67 : Bool), Arr.to.j2 kind0 t57_0 t4_0_2 t4_1_2 t67 = some r ∧ s = (⟨87, [(0, J kind0), (4, .ptr 0 0), (9, J t57_0), (67, .lit (.bool t67))], [.box [J t4_0_2, J t4_1_2]]⟩ : St)) ?_ ?_
          · obtain ⟨t62, et62, hj8⟩ := letk_elim hj7
            conv => whnf
            refine Nm.mk ⟨t62, et62, ?_⟩
            rcases t62 with _ | _
            · have hj9 := bif_f hj8
              obtain ⟨t65, et65, hj10⟩ := bind_elim hj9
              conv => whnf
              refine Gate.go ?_
              conv => whnf
              refine CallN.by (v := .lit (.bool t65)) (Arr.fits_ok et65) rfl rfl ?_
              obtain ⟨t66, et66, hj11⟩ := letk_elim hj10
              conv => whnf
              refine Nm.mk ⟨t66, et66, ?_⟩
              exact BackS.by ⟨_, _, _, hj11, rfl⟩ (Sees.of (Weak.objs (keep := [1]) (frz := []) (m := 0) rfl (by decide) rfl rfl ⟨⟨_, rfl, WO.boxs ⟨.s, .s, trivial⟩⟩, ⟨rfl, fun _ h => by cases h⟩⟩ ⟨.s, (.ptr _ _ 0 rfl), .s, .s, trivial⟩))
            have hj9 := bif_t hj8
            exact BackS.by ⟨_, _, _, hj9, rfl⟩ (Sees.of (Weak.objs (keep := [1]) (frz := []) (m := 0) rfl (by decide) rfl rfl ⟨⟨_, rfl, WO.boxs ⟨.s, .s, trivial⟩⟩, ⟨rfl, fun _ h => by cases h⟩⟩ ⟨.s, (.ptr _ _ 0 rfl), .s, .s, trivial⟩))
          rintro s ⟨t4_0_2, t4_1_2, t67, hj0, rfl⟩
          unfold Arr.to.j2 at hj0
          rcases t67 with _ | _
          · have hj1 := bif_f hj0
            conv => whnf
            refine Gate.go ?_
            conv => whnf
            refine Nm.mk ⟨[J kind0, J t57_0], rfl, ?_⟩
            conv => whnf
            refine Nm.mk ⟨[J kind0, J t57_0], rfl, ?_⟩
            have ehj1_0 := Option.some.inj hj1
            subst ehj1_0
            conv => whnf
            exact Returns.pure (r := .tup [api.Value.enc ((⟨kind0, t57_0⟩ : api.Value)), J 0]) rfl rfl rfl rfl ⟨rfl, rfl⟩
          have hj1 := bif_t hj0
          conv => whnf
          refine Gate.go ?_
          conv => whnf
          refine Nm.mk ⟨[J 0, J 0], rfl, ?_⟩
          conv => whnf
          refine Nm.mk ⟨[J 0, J 0], rfl, ?_⟩
          have ehj1_0 := Option.some.inj hj1
          subst ehj1_0
          conv => whnf
          exact Returns.pure (r := .tup [api.Value.enc ((⟨0, 0⟩ : api.Value)), J 10]) rfl rfl rfl rfl ⟨rfl, rfl⟩
        have hj3 := bif_t hj2
        conv => whnf
        refine DrawB.sees (Sees.of (Weak.objs (k := 87) (keep := [0, 1]) (frz := []) (m := 0) (ts := [(0, J kind0), (3, .ptr 0 0), (4, .ptr 1 0)]) (hs := [.box [J v3_0_1, J v3_1_1], .box [J t4_0_1, J t4_1_1]]) rfl (by decide) rfl rfl ⟨⟨_, rfl, WO.refl rfl⟩, ⟨⟨_, rfl, WO.refl rfl⟩, ⟨rfl, fun _ h => by cases h⟩⟩⟩ ⟨.s, (.ptr _ _ 0 rfl), (.ptr _ _ 1 rfl), trivial⟩)) ?_
        refine DrawB.ofG [none, none, none, none, none, none, none, none, none, none, none, none] Tryz_mixed (by kernel_rfl) (by kernel_rfl) ?_
        conv => whnf
        refine DNodeB.of (J kind0) ?_ ?_
        · conv => whnf
          rfl
        obtain ⟨t38, et38, hj4⟩ := bind_elim hj3
        conv => whnf
        refine DNodeB.of (J t38) ?_ ?_
        · conv => whnf
          refine CallN.by (v := J t38) (Arr.bytes_ok et38) rfl rfl ?_
          conv => whnf
          rfl
        conv => whnf
        refine DNodeB.of (.ptr 0 1) ?_ ?_
        · conv => whnf
          rfl
        conv => whnf
        refine DNodeB.of (J v3_1_1) ?_ ?_
        · conv => whnf
          rfl
        obtain ⟨⟨t41_0, t41_1, t41_2⟩, et41, hj5⟩ := bind_elim hj4
        conv => whnf
        refine DNodeB.of (.tup [J t41_0, J t41_1, J t41_2]) ?_ ?_
        · conv => whnf
          refine CallN.by (v := .tup [J t41_0, J t41_1, J t41_2]) (Flt.FromInt_ok et41) rfl rfl ?_
          conv => whnf
          rfl
        conv => whnf
        refine DNodeB.of (.tup [J t41_0, J t41_1, J t41_2]) ?_ ?_
        · conv => whnf
          rfl
        conv => whnf
        refine DNodeB.of (J t41_0) ?_ ?_
        · conv => whnf
          rfl
        conv => whnf
        refine DNodeB.of (J t41_1) ?_ ?_
        · conv => whnf
          rfl
        conv => whnf
        refine DNodeB.of (J t41_2) ?_ ?_
        · conv => whnf
          rfl
        conv => whnf
        refine DNodeB.of (J t41_0) ?_ ?_
        · conv => whnf
          rfl
        conv => whnf
        refine DNodeB.of (J t41_1) ?_ ?_
        · conv => whnf
          rfl
        conv => whnf
        refine DNodeB.of (J t41_2) ?_ ?_
        · conv => whnf
          rfl
        conv => whnf
        refine Gate.go ?_
        conv => whnf
        refine Nm.mk ⟨[J kind0, J t41_0], rfl, ?_⟩
        conv => whnf
        refine Nm.mk ⟨[J kind0, J t41_0], rfl, ?_⟩
        have ehj5_0 := Option.some.inj hj5
        subst ehj5_0
        conv => whnf
        exact Returns.pure (r := .tup [api.Value.enc ((⟨kind0, t41_0⟩ : api.Value)), J 0]) rfl rfl rfl rfl ⟨rfl, rfl⟩
      have hj1 := bif_t hj0
      conv => whnf
      refine Gate.go ?_
      conv => whnf
      refine Nm.mk ⟨[J 0, J 0], rfl, ?_⟩
      conv => whnf
      refine Nm.mk ⟨[J 0, J 0], rfl, ?_⟩
      have ehj1_0 := Option.some.inj hj1
      subst ehj1_0
      conv => whnf
      exact Returns.pure (r := .tup [api.Value.enc ((⟨0, 0⟩ : api.Value)), J 70]) rfl rfl rfl rfl ⟨rfl, rfl⟩
    have h2 := bif_t h1
    conv => whnf
    refine Nm.mk ⟨[J v1.Kind, J v1.N], rfl, ?_⟩
    have eh2_0 := Option.some.inj h2
    subst eh2_0
    conv => whnf
    exact Returns.pure (r := .tup [api.Value.enc ((⟨v1.Kind, v1.N⟩ : api.Value)), J 0]) rfl rfl rfl rfl ⟨rfl, rfl⟩
  rintro s ⟨v3_0, v3_1, t4_0, t4_1, hj0, rfl⟩
  unfold Arr.to.j0 at hj0
  conv => whnf
  refine DrawB.sees (Sees.of (Weak.objs (k := 87) (keep := [0, 1]) (frz := []) (m := 0) (ts := [(0, J kind0), (3, .ptr 0 0), (4, .ptr 1 0)]) (hs := [.box [J v3_0, J v3_1], .box [J t4_0, J t4_1]]) rfl (by decide) rfl rfl ⟨⟨_, rfl, WO.refl rfl⟩, ⟨⟨_, rfl, WO.refl rfl⟩, ⟨rfl, fun _ h => by cases h⟩⟩⟩ ⟨.s, (.ptr _ _ 0 rfl), (.ptr _ _ 1 rfl), trivial⟩)) ?_
  refine DrawB.ofG [none, none, none, none, none, none, none, none, none, none, none, none, none, none, none] Tryz_mixed (by kernel_rfl) (by kernel_rfl) ?_
  conv => whnf
  refine DNodeB.of (.ptr 0 0) ?_ ?_
  · conv => whnf
    rfl
  conv => whnf
  refine DNodeB.of (J v3_0) ?_ ?_
  · conv => whnf
    rfl
  obtain ⟨t75, et75, hj1⟩ := bind_elim hj0
  conv => whnf
  refine DNodeB.of (J t75) ?_ ?_
  · conv => whnf
    refine CallN.by (v := J t75) (Arr.bytes_ok et75) rfl rfl ?_
    conv => whnf
    rfl
  conv => whnf
  refine DNodeB.of (J kind0) ?_ ?_
  · conv => whnf
    rfl
  obtain ⟨t77, et77, hj2⟩ := bind_elim hj1
  conv => whnf
  refine DNodeB.of (J t77) ?_ ?_
  · conv => whnf
    refine CallN.by (v := J t77) (Arr.bytes_ok et77) rfl rfl ?_
    conv => whnf
    rfl
  conv => whnf
  refine DNodeB.of (.ptr 0 1) ?_ ?_
  · conv => whnf
    rfl
  conv => whnf
  refine DNodeB.of (J v3_1) ?_ ?_
  · conv => whnf
    rfl
  obtain ⟨⟨t80_0, t80_1, t80_2⟩, et80, hj3⟩ := bind_elim hj2
  conv => whnf
  refine DNodeB.of (.tup [J t80_0, J t80_1, J t80_2]) ?_ ?_
  · conv => whnf
    refine CallN.by (v := .tup [J t80_0, J t80_1, J t80_2]) (Flt.Convert_ok et80) rfl rfl ?_
    conv => whnf
    rfl
  conv => whnf
  refine DNodeB.of (.tup [J t80_0, J t80_1, J t80_2]) ?_ ?_
  · conv => whnf
    rfl
  conv => whnf
  refine DNodeB.of (J t80_0) ?_ ?_
  · conv => whnf
    rfl
  conv => whnf
  refine DNodeB.of (J t80_1) ?_ ?_
  · conv => whnf
    rfl
  conv => whnf
  refine DNodeB.of (J t80_2) ?_ ?_
  · conv => whnf
    rfl
  conv => whnf
  refine DNodeB.of (J t80_0) ?_ ?_
  · conv => whnf
    rfl
  conv => whnf
  refine DNodeB.of (J t80_1) ?_ ?_
  · conv => whnf
    rfl
  conv => whnf
  refine DNodeB.of (J t80_2) ?_ ?_
  · conv => whnf
    rfl
  conv => whnf
  refine Gate.go ?_
  conv => whnf
  refine Nm.mk ⟨[J kind0, J t80_0], rfl, ?_⟩
  conv => whnf
  refine Nm.mk ⟨[J kind0, J t80_0], rfl, ?_⟩
  have ehj3_0 := Option.some.inj hj3
  subst ehj3_0
  conv => whnf
  exact Returns.pure (r := .tup [api.Value.enc ((⟨kind0, t80_0⟩ : api.Value)), J 0]) rfl rfl rfl rfl ⟨rfl, rfl⟩

noncomputable def Arr.number (kind0 n1 : Int) : Option api.Value :=
  Option.bind (Arr.to kind0 (⟨1, n1⟩ : api.Value)) fun (t11_0, t11_1) =>
  some (⟨t11_0.Kind, t11_0.N⟩ : api.Value)

theorem Arr.number_ok {kind0 n1 : Int} {r : api.Value} (h0 : Arr.number kind0 n1 = some r) : Gives Tryz.prog 129 [J kind0, J n1] (api.Value.enc r) := by
  unfold Arr.number at h0
  refine ACalls.of_swp Tryz.func129 rfl (by decide) rfl (st0 := ⟨15, [(0, J kind0), (1, J n1)], []⟩) rfl (bwp_ok (C := []) ?_)
  conv => whnf
  refine Nm.mk ⟨[J 0, J 0], rfl, ?_⟩
  conv => whnf
  refine Gate.go ?_
  conv => whnf
  refine Nm.mk ⟨[J 1, J n1], rfl, ?_⟩
  obtain ⟨⟨t11_0, t11_1⟩, et11, h1⟩ := bind_elim h0
  conv => whnf
  refine Gate.go ?_
  conv => whnf
  refine CallN.by (v := .tup [api.Value.enc t11_0, J t11_1]) (Arr.to_ok et11) rfl rfl ?_
  conv => whnf
  refine Nm.mk ⟨[J 0, J 0], rfl, ?_⟩
  conv => whnf
  refine Nm.mk ⟨[J t11_0.Kind, J t11_0.N], rfl, ?_⟩
  conv => whnf
  refine Nm.mk ⟨[J t11_0.Kind, J t11_0.N], rfl, ?_⟩
  have eh1_0 := Option.some.inj h1
  subst eh1_0
  conv => whnf
  exact Returns.pure (r := api.Value.enc ((⟨t11_0.Kind, t11_0.N⟩ : api.Value))) rfl rfl rfl rfl ⟨rfl, rfl⟩

noncomputable def Arr.isScalar (a0 : api.Array) : Option Bool :=
  letk ((a0.Shape.length : Int)) fun t5 =>
  letk (t5 == (0 : Int)) fun t6 =>
  some t6

theorem Arr.isScalar_ok {a0 : api.Array} {r : Bool} (h0 : Arr.isScalar a0 = some r) : Gives Tryz.prog 82 [api.Array.enc a0] (.lit (.bool r)) := by
  unfold Arr.isScalar at h0
  refine ACalls.of_swp Tryz.func82 rfl (by decide) rfl (st0 := ⟨7, [(0, api.Array.enc a0)], []⟩) rfl (bwp_ok (C := []) ?_)
  conv => whnf
  refine Nm.mk ⟨[J a0.Kind, .vs 1 (a0.Shape.map (eI .i64)), .vs 1 (a0.Elems.map (eI .i64))], rfl, ?_⟩
  obtain ⟨t5, et5, h1⟩ := letk_elim h0
  conv => whnf
  refine Nm.mk ⟨t5, by rw [et5, List.length_map], ?_⟩
  obtain ⟨t6, et6, h2⟩ := letk_elim h1
  conv => whnf
  refine Nm.mk ⟨t6, et6, ?_⟩
  have eh2_0 := Option.some.inj h2
  subst eh2_0
  conv => whnf
  exact Returns.pure (r := .lit (.bool t6)) rfl rfl rfl rfl ⟨rfl, rfl⟩

noncomputable def Arr.at_.j0 (i1_1 a2_0 : Int) (a2_1 a2_2 : List Int) (t4_0 t4_1 : Int) : Option api.Value :=
  chk (0 ≤ i1_1) <|
  Option.bind (a2_2[i1_1.toNat]?) fun t12 =>
  some (⟨a2_0, t12⟩ : api.Value)

noncomputable def Arr.at_ (a0 : api.Array) (i1 : Int) : Option api.Value :=
  Option.bind (Arr.isScalar (⟨a0.Kind, a0.Shape, a0.Elems⟩ : api.Array)) fun t6 =>
  bif t6 then
    Arr.at_.j0 0 a0.Kind a0.Shape a0.Elems 0 0
  else
    Arr.at_.j0 i1 a0.Kind a0.Shape a0.Elems 0 0

theorem Arr.at__ok {a0 : api.Array} {i1 : Int} {r : api.Value} (h0 : Arr.at_ a0 i1 = some r) : Gives Tryz.prog 61 [api.Array.enc a0, J i1] (api.Value.enc r) := by
  unfold Arr.at_ at h0
  refine ACalls.of_swp Tryz.func61 rfl (by decide) rfl (st0 := ⟨15, [(0, api.Array.enc a0), (1, J i1)], []⟩) rfl (bwp_ok (C := [(0, 3)]) ?_)
  conv => whnf
  refine Nm.mk ⟨[J a0.Kind, .vs 1 (a0.Shape.map (eI .i64)), .vs 1 (a0.Elems.map (eI .i64))], rfl, ?_⟩
  conv => whnf
  refine Nm.mk ⟨[J 0, J 0], rfl, ?_⟩
  conv => whnf
  refine CutN.of (fun s => ∃ (i1_1 a2_0 : Int) (a2_1 a2_2 : List Int) (t4_0 t4_1 : Int), Arr.at_.j0 i1_1 a2_0 a2_1 a2_2 t4_0 t4_1 = some r ∧ s = (⟨15, [(1, J i1_1), (2, .ptr 0 0), (4, .ptr 1 0)], [.box [J a2_0, .vs 1 (a2_1.map (eI .i64)), .vs 1 (a2_2.map (eI .i64))], .box [J t4_0, J t4_1]]⟩ : St)) ?_ ?_
  · obtain ⟨t6, et6, h1⟩ := bind_elim h0
    conv => whnf
    refine Gate.go ?_
    conv => whnf
    refine CallN.by (v := .lit (.bool t6)) (Arr.isScalar_ok et6) rfl rfl ?_
    rcases t6 with _ | _
    · have h2 := bif_f h1
      exact BackS.by ⟨_, _, _, _, _, _, h2, rfl⟩ (Sees.of (Weak.objs (keep := [0, 1]) (frz := []) (m := 0) rfl (by decide) rfl rfl ⟨⟨_, rfl, WO.boxs ⟨.s, .s, .s, trivial⟩⟩, ⟨⟨_, rfl, WO.boxs ⟨.s, .s, trivial⟩⟩, ⟨rfl, fun _ h => by cases h⟩⟩⟩ ⟨.s, (.ptr _ _ 0 rfl), (.ptr _ _ 1 rfl), trivial⟩))
    have h2 := bif_t h1
    exact BackS.by ⟨_, _, _, _, _, _, h2, rfl⟩ (Sees.of (Weak.objs (keep := [0, 1]) (frz := []) (m := 0) rfl (by decide) rfl rfl ⟨⟨_, rfl, WO.boxs ⟨.s, .s, .s, trivial⟩⟩, ⟨⟨_, rfl, WO.boxs ⟨.s, .s, trivial⟩⟩, ⟨rfl, fun _ h => by cases h⟩⟩⟩ ⟨.s, (.ptr _ _ 0 rfl), (.ptr _ _ 1 rfl), trivial⟩))
  rintro s ⟨i1_1, a2_0, a2_1, a2_2, t4_0, t4_1, hj0, rfl⟩
  unfold Arr.at_.j0 at hj0
  conv => whnf
  refine DrawB.ofFN 0 [.box [J a2_0, .vs 1 (a2_1.map (eI .i64)), .vs 1 (a2_2.map (eI .i64))], .box [J t4_0, J t4_1]] 2 2 [[0], [0], [0], [0], [], [], [], [], [1]] [[], [], [], [], [], [], [], [], [1]] [none, none, none, none, none, none, none, none, none] Tryz_mixed (by kernel_rfl) rfl rfl rfl (by kernel_rfl) ?_
  conv => whnf
  refine FNode.rd (F := [0]) (W := []) (.ptr 0 0) ?_ rfl rfl ?_
  · conv => whnf
    rfl
  conv => whnf
  refine FNode.rd (F := [0]) (W := []) (J a2_0) ?_ rfl rfl ?_
  · conv => whnf
    rfl
  conv => whnf
  refine FNode.rd (F := [0]) (W := []) (.ptr 0 2) ?_ rfl rfl ?_
  · conv => whnf
    rfl
  conv => whnf
  refine FNode.rd (F := [0]) (W := []) (.vs 1 (a2_2.map (eI .i64))) ?_ rfl rfl ?_
  · conv => whnf
    rfl
  conv => whnf
  refine FNode.no (W := []) (J i1_1) ?_ rfl ?_
  · conv => whnf
    rfl
  obtain ⟨chj1, hj1⟩ := chk_elim hj0
  obtain ⟨t12, et12, hj2⟩ := bind_elim hj1
  conv => whnf
  refine FNode.no (W := []) (.iptr (J t12)) ?_ rfl ?_
  · conv => whnf
    refine Side.mk chj1 ?_
    conv => whnf
    refine At.by et12 ?_
    conv => whnf
    rfl
  conv => whnf
  refine FNode.no (W := []) (J t12) ?_ rfl ?_
  · conv => whnf
    rfl
  conv => whnf
  refine FNode.no (W := []) (.agg [J a2_0, J t12]) ?_ rfl ?_
  · conv => whnf
    refine Nm.mk ⟨[J a2_0, J t12], rfl, ?_⟩
    conv => whnf
    rfl
  conv => whnf
  refine FNode.pl (F := [1]) (W := [1]) (.undef) [.box [J a2_0, .vs 1 (a2_1.map (eI .i64)), .vs 1 (a2_2.map (eI .i64))], .box [J a2_0, J t12]] ?_ rfl rfl rfl rfl ?_
  · conv => whnf
    refine Nm.mk ⟨[J a2_0, J t12], rfl, ?_⟩
    conv => whnf
    rfl
  have ehj2_0 := Option.some.inj hj2
  subst ehj2_0
  conv => whnf
  exact Returns.pure (r := api.Value.enc ((⟨a2_0, t12⟩ : api.Value))) rfl rfl rfl rfl ⟨rfl, rfl⟩

noncomputable def Arr.logical (is0 : Bool) : Option api.Value :=
  bif is0 then
    some (⟨2, 1⟩ : api.Value)
  else
    some (⟨2, 0⟩ : api.Value)

theorem Arr.logical_ok {is0 : Bool} {r : api.Value} (h0 : Arr.logical is0 = some r) : Gives Tryz.prog 86 [.lit (.bool is0)] (api.Value.enc r) := by
  unfold Arr.logical at h0
  refine ACalls.of_swp Tryz.func86 rfl (by decide) rfl (st0 := ⟨6, [(0, .lit (.bool is0))], []⟩) rfl (bwp_ok (C := []) ?_)
  conv => whnf
  refine Nm.mk ⟨[J 0, J 0], rfl, ?_⟩
  rcases is0 with _ | _
  · have h1 := bif_f h0
    conv => whnf
    refine Gate.go ?_
    conv => whnf
    refine Nm.mk ⟨[J 2, J 0], rfl, ?_⟩
    conv => whnf
    refine Nm.mk ⟨[J 2, J 0], rfl, ?_⟩
    have eh1_0 := Option.some.inj h1
    subst eh1_0
    conv => whnf
    exact Returns.pure (r := api.Value.enc ((⟨2, 0⟩ : api.Value))) rfl rfl rfl rfl ⟨rfl, rfl⟩
  have h1 := bif_t h0
  conv => whnf
  refine Gate.go ?_
  conv => whnf
  refine Nm.mk ⟨[J 2, J 1], rfl, ?_⟩
  conv => whnf
  refine Nm.mk ⟨[J 2, J 1], rfl, ?_⟩
  have eh1_0 := Option.some.inj h1
  subst eh1_0
  conv => whnf
  exact Returns.pure (r := api.Value.enc ((⟨2, 1⟩ : api.Value))) rfl rfl rfl rfl ⟨rfl, rfl⟩

noncomputable def Arr.integer (n0 : Int) : Option (api.Value × Int) :=
  Option.bind (Arr.fits 1 n0) fun t5 =>
  letk (!t5) fun t6 =>
  bif t6 then
    some ((⟨0, 0⟩ : api.Value), 10)
  else
    some ((⟨1, n0⟩ : api.Value), 0)

theorem Arr.integer_ok {n0 : Int} {r : api.Value × Int} (h0 : Arr.integer n0 = some r) : Gives Tryz.prog 142 [J n0] (.tup [api.Value.enc r.1, J r.2]) := by
  unfold Arr.integer at h0
  refine ACalls.of_swp Tryz.func142 rfl (by decide) rfl (st0 := ⟨10, [(0, J n0)], []⟩) rfl (bwp_ok (C := []) ?_)
  conv => whnf
  refine Nm.mk ⟨[J 0, J 0], rfl, ?_⟩
  obtain ⟨t5, et5, h1⟩ := bind_elim h0
  conv => whnf
  refine Gate.go ?_
  conv => whnf
  refine CallN.by (v := .lit (.bool t5)) (Arr.fits_ok et5) rfl rfl ?_
  obtain ⟨t6, et6, h2⟩ := letk_elim h1
  conv => whnf
  refine Nm.mk ⟨t6, et6, ?_⟩
  rcases t6 with _ | _
  · have h3 := bif_f h2
    conv => whnf
    refine Gate.go ?_
    conv => whnf
    refine Nm.mk ⟨[J 1, J n0], rfl, ?_⟩
    conv => whnf
    refine Nm.mk ⟨[J 1, J n0], rfl, ?_⟩
    have eh3_0 := Option.some.inj h3
    subst eh3_0
    conv => whnf
    exact Returns.pure (r := .tup [api.Value.enc ((⟨1, n0⟩ : api.Value)), J 0]) rfl rfl rfl rfl ⟨rfl, rfl⟩
  have h3 := bif_t h2
  conv => whnf
  refine Gate.go ?_
  conv => whnf
  refine Nm.mk ⟨[J 0, J 0], rfl, ?_⟩
  conv => whnf
  refine Nm.mk ⟨[J 0, J 0], rfl, ?_⟩
  have eh3_0 := Option.some.inj h3
  subst eh3_0
  conv => whnf
  exact Returns.pure (r := .tup [api.Value.enc ((⟨0, 0⟩ : api.Value)), J 10]) rfl rfl rfl rfl ⟨rfl, rfl⟩

noncomputable def Flt.shape.none (s0 : float.shape) (mode1 : Int) : Option Int :=
  letk (mode1 == (2 : Int)) fun t6 =>
  bif t6 then
    Option.bind (Flt.shape.zero (⟨s0.p, s0.w⟩ : float.shape) 1) fun t8 =>
    some t8
  else
    Option.bind (Flt.shape.zero (⟨s0.p, s0.w⟩ : float.shape) 0) fun t10 =>
    some t10

theorem Flt.shape.none_ok {s0 : float.shape} {mode1 r : Int} (h0 : Flt.shape.none s0 mode1 = some r) : Gives Tryz.prog 205 [float.shape.enc s0, J mode1] (J r) := by
  unfold Flt.shape.none at h0
  refine ACalls.of_swp Tryz.func205 rfl (by decide) rfl (st0 := ⟨11, [(0, float.shape.enc s0), (1, J mode1)], []⟩) rfl (bwp_ok (C := []) ?_)
  conv => whnf
  refine Nm.mk ⟨[J s0.p, J s0.w], rfl, ?_⟩
  obtain ⟨t6, et6, h1⟩ := letk_elim h0
  conv => whnf
  refine Nm.mk ⟨t6, et6, ?_⟩
  rcases t6 with _ | _
  · have h2 := bif_f h1
    obtain ⟨t10, et10, h3⟩ := bind_elim h2
    conv => whnf
    refine Gate.go ?_
    conv => whnf
    refine CallN.by (v := J t10) (Flt.shape.zero_ok et10) rfl rfl ?_
    have eh3_0 := Option.some.inj h3
    subst eh3_0
    conv => whnf
    exact Returns.pure (r := J t10) rfl rfl rfl rfl ⟨rfl, rfl⟩
  have h2 := bif_t h1
  obtain ⟨t8, et8, h3⟩ := bind_elim h2
  conv => whnf
  refine Gate.go ?_
  conv => whnf
  refine CallN.by (v := J t8) (Flt.shape.zero_ok et8) rfl rfl ?_
  have eh3_0 := Option.some.inj h3
  subst eh3_0
  conv => whnf
  exact Returns.pure (r := J t8) rfl rfl rfl rfl ⟨rfl, rfl⟩

noncomputable def Flt.left (m0 n1 : Int) : Option (Int × Int) :=
  letk (decide (n1 ≥ (64 : Int))) fun t7 =>
  bif t7 then
    letk (IntKind.i64.wrap (n1 - (64 : Int))) fun t10 =>
    chk (0 ≤ t10) <|
    letk (IntKind.u64.wrap (m0 * 2 ^ (min t10.toNat (IntKind.u64).bits))) fun t11 =>
    some (t11, 0)
  else
    letk (IntKind.i64.wrap ((64 : Int) - n1)) fun t14 =>
    chk (0 ≤ t14) <|
    letk ((IntKind.u64, m0.fdiv (2 ^ (min t14.toNat (IntKind.u64).bits))).2) fun t15 =>
    chk (0 ≤ n1) <|
    letk (IntKind.u64.wrap (m0 * 2 ^ (min n1.toNat (IntKind.u64).bits))) fun t18 =>
    some (t15, t18)

theorem Flt.left_ok {m0 n1 : Int} {r : Int × Int} (h0 : Flt.left m0 n1 = some r) : Gives Tryz.prog 178 [U m0, J n1] (.tup [U r.1, U r.2]) := by
  unfold Flt.left at h0
  refine ACalls.of_swp Tryz.func178 rfl (by decide) rfl (st0 := ⟨19, [(0, U m0), (1, J n1)], []⟩) rfl (bwp_ok (C := []) ?_)
  obtain ⟨t7, et7, h1⟩ := letk_elim h0
  conv => whnf
  refine Nm.mk ⟨t7, et7, ?_⟩
  rcases t7 with _ | _
  · have h2 := bif_f h1
    conv => whnf
    refine DrawB.ofG [none, none, none, none, none, none, none, none, none] Tryz_mixed (by kernel_rfl) (by kernel_rfl) ?_
    conv => whnf
    refine DNodeB.of (U m0) ?_ ?_
    · conv => whnf
      rfl
    conv => whnf
    refine DNodeB.of (J n1) ?_ ?_
    · conv => whnf
      rfl
    obtain ⟨t14, et14, h3⟩ := letk_elim h2
    conv => whnf
    refine DNodeB.of (J t14) ?_ ?_
    · conv => whnf
      refine Nm.mk ⟨t14, et14, ?_⟩
      conv => whnf
      rfl
    obtain ⟨ch4, h4⟩ := chk_elim h3
    obtain ⟨t15, et15, h5⟩ := letk_elim h4
    conv => whnf
    refine DNodeB.of (U t15) ?_ ?_
    · conv => whnf
      refine Side.mk ch4 ?_
      conv => whnf
      refine Nm.mk ⟨t15, et15, ?_⟩
      conv => whnf
      rfl
    conv => whnf
    refine DNodeB.of (U m0) ?_ ?_
    · conv => whnf
      rfl
    conv => whnf
    refine DNodeB.of (J n1) ?_ ?_
    · conv => whnf
      rfl
    obtain ⟨ch6, h6⟩ := chk_elim h5
    obtain ⟨t18, et18, h7⟩ := letk_elim h6
    conv => whnf
    refine DNodeB.of (U t18) ?_ ?_
    · conv => whnf
      refine Side.mk ch6 ?_
      conv => whnf
      refine Nm.mk ⟨t18, et18, ?_⟩
      conv => whnf
      rfl
    conv => whnf
    refine DNodeB.of (U t15) ?_ ?_
    · conv => whnf
      rfl
    conv => whnf
    refine DNodeB.of (U t18) ?_ ?_
    · conv => whnf
      rfl
    have eh7_0 := Option.some.inj h7
    subst eh7_0
    conv => whnf
    exact Returns.pure (r := .tup [U t15, U t18]) rfl rfl rfl rfl ⟨rfl, rfl⟩
  have h2 := bif_t h1
  obtain ⟨t10, et10, h3⟩ := letk_elim h2
  conv => whnf
  refine Nm.mk ⟨t10, et10, ?_⟩
  obtain ⟨ch4, h4⟩ := chk_elim h3
  obtain ⟨t11, et11, h5⟩ := letk_elim h4
  conv => whnf
  refine Side.mk ch4 ?_
  conv => whnf
  refine Nm.mk ⟨t11, et11, ?_⟩
  have eh5_0 := Option.some.inj h5
  subst eh5_0
  conv => whnf
  exact Returns.pure (r := .tup [U t11, U 0]) rfl rfl rfl rfl ⟨rfl, rfl⟩

noncomputable def Flt.shape.sum.j4 (mode1 lo15 hi17 sign18 s4_0_2 s4_1_2 a12_0_2 a12_1_2 a12_2_2 : Int) (a12_3_3 : Bool) : Option (Int × Int) :=
  Option.bind (Flt.shape.round (⟨s4_0_2, s4_1_2⟩ : float.shape) mode1 sign18 (⟨hi17, lo15, a12_2_2, a12_3_3⟩ : float.exact)) fun (t122_0, t122_1) =>
  some (t122_0, t122_1)

noncomputable def Flt.shape.sum.j5 (mode1 s4_0_1 s4_1_1 a12_0_1 a12_1_1 a12_2_1 lo15 hi17 sign18 : Int) (a12_3_4 t110 : Bool) : Option (Int × Int) :=
  bif t110 then
    Option.bind (Flt.shape.none (⟨s4_0_1, s4_1_1⟩ : float.shape) mode1) fun t113 =>
    some (t113, 0)
  else
    Flt.shape.sum.j4 mode1 lo15 hi17 sign18 s4_0_1 s4_1_1 a12_0_1 a12_1_1 a12_2_1 a12_3_4

noncomputable def Flt.shape.sum.j3 (mode1 s4_0_1 s4_1_1 a12_0_1 a12_1_1 a12_2_1 : Int) (a12_3_2 : Bool) (lo15 hi17 sign18 : Int) : Option (Int × Int) :=
  letk (hi17 == (0 : Int)) fun t106 =>
  bif t106 then
    letk (lo15 == (0 : Int)) fun t109 =>
    Flt.shape.sum.j5 mode1 s4_0_1 s4_1_1 a12_0_1 a12_1_1 a12_2_1 lo15 hi17 sign18 a12_3_2 t109
  else
    Flt.shape.sum.j5 mode1 s4_0_1 s4_1_1 a12_0_1 a12_1_1 a12_2_1 lo15 hi17 sign18 a12_3_2 false

noncomputable def Flt.shape.sum.j2 (mode1 s4_0 s4_1 x6_0 x6_1 x6_2 x6_3 y7_0 y7_1 y7_2 y7_3 a12_0 a12_1 a12_2 : Int) (a12_3_1 : Bool) (b13_1 : Int) : Option (Int × Int) :=
  Option.bind (Bits.Sub64 a12_1 b13_1 0) fun (t78_0, t78_1) =>
  Option.bind (Bits.Sub64 a12_0 0 t78_1) fun (t85_0, t85_1) =>
  letk (t85_1 == (1 : Int)) fun t91 =>
  bif t91 then
    Option.bind (Bits.Sub64 0 t78_0 0) fun (t96_0, t96_1) =>
    Option.bind (Bits.Sub64 0 t85_0 t96_1) fun (t102_0, t102_1) =>
    Flt.shape.sum.j3 mode1 s4_0 s4_1 a12_0 a12_1 a12_2 a12_3_1 t96_0 t102_0 y7_1
  else
    Flt.shape.sum.j3 mode1 s4_0 s4_1 a12_0 a12_1 a12_2 a12_3_1 t78_0 t85_0 x6_1

noncomputable def Flt.shape.sum.j1 (mode1 s4_0 s4_1 x6_0 x6_1 x6_2 x6_3 y7_0 y7_1 y7_2 y7_3 : Int) (far11_1 : Bool) (a12_0 a12_1 a12_2 : Int) (a12_3 : Bool) (b13 : Int) : Option (Int × Int) :=
  letk (x6_1 == y7_1) fun t51 =>
  bif t51 then
    Option.bind (Bits.Add64 a12_1 b13 0) fun (t56_0, t56_1) =>
    letk (IntKind.u64.wrap (a12_0 + t56_1)) fun t63 =>
    Option.bind (Flt.shape.round (⟨s4_0, s4_1⟩ : float.shape) mode1 x6_1 (⟨t63, t56_0, a12_2, a12_3⟩ : float.exact)) fun (t70_0, t70_1) =>
    some (t70_0, t70_1)
  else
    bif far11_1 then
      Flt.shape.sum.j2 mode1 s4_0 s4_1 x6_0 x6_1 x6_2 x6_3 y7_0 y7_1 y7_2 y7_3 a12_0 a12_1 a12_2 a12_3 1
    else
      Flt.shape.sum.j2 mode1 s4_0 s4_1 x6_0 x6_1 x6_2 x6_3 y7_0 y7_1 y7_2 y7_3 a12_0 a12_1 a12_2 a12_3 b13

noncomputable def Flt.shape.sum.j0 (s0 : float.shape) (mode1 : Int) (x2 y3 : float.number) (apart10 : Int) (far11 : Bool) : Option (Int × Int) :=
  letk (IntKind.i64.wrap (x2.e - apart10)) fun t32 =>
  Option.bind (Flt.left x2.m apart10) fun (t38_0, t38_1) =>
  bif far11 then
    Flt.shape.sum.j1 mode1 s0.p s0.w x2.class_ x2.sign x2.m x2.e y3.class_ y3.sign y3.m y3.e true t38_0 t38_1 t32 true 0
  else
    Flt.shape.sum.j1 mode1 s0.p s0.w x2.class_ x2.sign x2.m x2.e y3.class_ y3.sign y3.m y3.e false t38_0 t38_1 t32 false y3.m

noncomputable def Flt.shape.sum (s0 : float.shape) (mode1 : Int) (x2 y3 : float.number) : Option (Int × Int) :=
  letk (IntKind.i64.wrap (x2.e - y3.e)) fun t23 =>
  letk (decide (t23 > (70 : Int))) fun t25 =>
  bif t25 then
    Flt.shape.sum.j0 s0 mode1 x2 y3 70 true
  else
    Flt.shape.sum.j0 s0 mode1 x2 y3 t23 false

theorem Flt.shape.sum_ok {s0 : float.shape} {mode1 : Int} {x2 y3 : float.number} {r : Int × Int} (h0 : Flt.shape.sum s0 mode1 x2 y3 = some r) : Gives Tryz.prog 206 [float.shape.enc s0, J mode1, float.number.enc x2, float.number.enc y3] (.tup [J r.1, J r.2]) := by
  unfold Flt.shape.sum at h0
  refine ACalls.of_swp Tryz.func206 rfl (by decide) rfl (st0 := ⟨125, [(0, float.shape.enc s0), (1, J mode1), (2, float.number.enc x2), (3, float.number.enc y3)], []⟩) rfl (bwp_ok (C := [(0, 5), (0, 10), (0, 17), (0, 24), (0, 26), (120, 51)]) ?_)
  conv => whnf
  refine Nm.mk ⟨[J s0.p, J s0.w], rfl, ?_⟩
  conv => whnf
  refine Nm.mk ⟨[J x2.class_, J x2.sign, U x2.m, J x2.e], rfl, ?_⟩
  conv => whnf
  refine Nm.mk ⟨[J y3.class_, J y3.sign, U y3.m, J y3.e], rfl, ?_⟩
  obtain ⟨t23, et23, h1⟩ := letk_elim h0
  conv => whnf
  refine Nm.mk ⟨t23, et23, ?_⟩
  obtain ⟨t25, et25, h2⟩ := letk_elim h1
  conv => whnf
  refine Nm.mk ⟨t25, et25, ?_⟩
  conv => whnf
  refine CutN.of (fun s => ∃ (apart10 : Int) (far11 : Bool), Flt.shape.sum.j0 s0 mode1 x2 y3 apart10 far11 = some r ∧ s = (⟨125, [(1, J mode1), (4, .ptr 0 0), (6, .ptr 1 0), (7, .ptr 2 0), (10, J apart10), (11, .lit (.bool far11))], [.box [J s0.p, J s0.w], .box [J x2.class_, J x2.sign, U x2.m, J x2.e], .box [J y3.class_, J y3.sign, U y3.m, J y3.e]]⟩ : St)) ?_ ?_
  · rcases t25 with _ | _
    · have h3 := bif_f h2
      exact BackS.by ⟨_, _, h3, rfl⟩ (Sees.of (Weak.objs (keep := [0, 1, 2]) (frz := []) (m := 0) rfl (by decide) rfl rfl ⟨⟨_, rfl, WO.boxs ⟨.s, .s, trivial⟩⟩, ⟨⟨_, rfl, WO.boxs ⟨.s, .s, .s, .s, trivial⟩⟩, ⟨⟨_, rfl, WO.boxs ⟨.s, .s, .s, .s, trivial⟩⟩, ⟨rfl, fun _ h => by cases h⟩⟩⟩⟩ ⟨.s, (.ptr _ _ 0 rfl), (.ptr _ _ 1 rfl), (.ptr _ _ 2 rfl), .s, .s, trivial⟩))
    have h3 := bif_t h2
    exact BackS.by ⟨_, _, h3, rfl⟩ (Sees.of (Weak.objs (keep := [0, 1, 2]) (frz := []) (m := 0) rfl (by decide) rfl rfl ⟨⟨_, rfl, WO.boxs ⟨.s, .s, trivial⟩⟩, ⟨⟨_, rfl, WO.boxs ⟨.s, .s, .s, .s, trivial⟩⟩, ⟨⟨_, rfl, WO.boxs ⟨.s, .s, .s, .s, trivial⟩⟩, ⟨rfl, fun _ h => by cases h⟩⟩⟩⟩ ⟨.s, (.ptr _ _ 0 rfl), (.ptr _ _ 1 rfl), (.ptr _ _ 2 rfl), .s, .s, trivial⟩))
  rintro s ⟨apart10, far11, hj0, rfl⟩
  unfold Flt.shape.sum.j0 at hj0
  obtain ⟨t32, et32, hj1⟩ := letk_elim hj0
  conv => whnf
  refine Nm.mk ⟨t32, et32, ?_⟩
  conv => whnf
  refine Gate.go ?_
  conv => whnf
  refine Nm.mk ⟨[U 0, U x2.m, J t32, .lit (.bool false)], rfl, ?_⟩
  conv => whnf
  refine Nm.mk ⟨[U 0, U 0, J 0, .lit (.bool false)], rfl, ?_⟩
  conv => whnf
  refine Nm.mk ⟨[U 0, U x2.m, J t32, .lit (.bool false)], rfl, ?_⟩
  obtain ⟨⟨t38_0, t38_1⟩, et38, hj2⟩ := bind_elim hj1
  conv => whnf
  refine Gate.go ?_
  conv => whnf
  refine CallN.by (v := .tup [U t38_0, U t38_1]) (Flt.left_ok et38) rfl rfl ?_
  conv => whnf
  refine Nm.mk ⟨[U t38_0, U x2.m, J t32, .lit (.bool false)], rfl, ?_⟩
  conv => whnf
  refine Nm.mk ⟨[U t38_0, U t38_1, J t32, .lit (.bool false)], rfl, ?_⟩
  conv => whnf
  refine CutN.of (fun s => ∃ (s4_0 s4_1 x6_0 x6_1 x6_2 x6_3 y7_0 y7_1 y7_2 y7_3 : Int) (far11_1 : Bool) (a12_0 a12_1 a12_2 : Int) (a12_3 : Bool) (b13 : Int), Flt.shape.sum.j1 mode1 s4_0 s4_1 x6_0 x6_1 x6_2 x6_3 y7_0 y7_1 y7_2 y7_3 far11_1 a12_0 a12_1 a12_2 a12_3 b13 = some r ∧ s = (⟨125, [(1, J mode1), (4, .ptr 0 0), (6, .ptr 1 0), (7, .ptr 2 0), (11, .lit (.bool far11_1)), (12, .ptr 3 0), (13, U b13)], [.box [J s4_0, J s4_1], .box [J x6_0, J x6_1, U x6_2, J x6_3], .box [J y7_0, J y7_1, U y7_2, J y7_3], .box [U a12_0, U a12_1, J a12_2, .lit (.bool a12_3)]]⟩ : St)) ?_ ?_
  · rcases far11 with _ | _
    · have hj3 := bif_f hj2
      exact BackS.by ⟨_, _, _, _, _, _, _, _, _, _, _, _, _, _, _, _, hj3, rfl⟩ (Sees.of (Weak.objs (keep := [0, 1, 2, 3]) (frz := []) (m := 0) rfl (by decide) rfl rfl ⟨⟨_, rfl, WO.boxs ⟨.s, .s, trivial⟩⟩, ⟨⟨_, rfl, WO.boxs ⟨.s, .s, .s, .s, trivial⟩⟩, ⟨⟨_, rfl, WO.boxs ⟨.s, .s, .s, .s, trivial⟩⟩, ⟨⟨_, rfl, WO.boxs ⟨.s, .s, .s, .s, trivial⟩⟩, ⟨rfl, fun _ h => by cases h⟩⟩⟩⟩⟩ ⟨.s, (.ptr _ _ 0 rfl), (.ptr _ _ 1 rfl), (.ptr _ _ 2 rfl), .s, (.ptr _ _ 3 rfl), .s, trivial⟩))
    have hj3 := bif_t hj2
    conv => whnf
    refine Nm.mk ⟨[U t38_0, U t38_1, J t32, .lit (.bool true)], rfl, ?_⟩
    exact BackS.by ⟨_, _, _, _, _, _, _, _, _, _, _, _, _, _, _, _, hj3, rfl⟩ (Sees.of (Weak.objs (keep := [0, 1, 2, 3]) (frz := []) (m := 0) rfl (by decide) rfl rfl ⟨⟨_, rfl, WO.boxs ⟨.s, .s, trivial⟩⟩, ⟨⟨_, rfl, WO.boxs ⟨.s, .s, .s, .s, trivial⟩⟩, ⟨⟨_, rfl, WO.boxs ⟨.s, .s, .s, .s, trivial⟩⟩, ⟨⟨_, rfl, WO.boxs ⟨.s, .s, .s, .s, trivial⟩⟩, ⟨rfl, fun _ h => by cases h⟩⟩⟩⟩⟩ ⟨.s, (.ptr _ _ 0 rfl), (.ptr _ _ 1 rfl), (.ptr _ _ 2 rfl), .s, (.ptr _ _ 3 rfl), .s, trivial⟩))
  rintro s ⟨s4_0, s4_1, x6_0, x6_1, x6_2, x6_3, y7_0, y7_1, y7_2, y7_3, far11_1, a12_0, a12_1, a12_2, a12_3, b13, hj0, rfl⟩
  unfold Flt.shape.sum.j1 at hj0
  obtain ⟨t51, et51, hj1⟩ := letk_elim hj0
  conv => whnf
  refine Nm.mk ⟨t51, et51, ?_⟩
  rcases t51 with _ | _
  · have hj2 := bif_f hj1
    conv => whnf
    refine CutN.of (fun s => ∃ (a12_3_1 : Bool) (b13_1 : Int), Flt.shape.sum.j2 mode1 s4_0 s4_1 x6_0 x6_1 x6_2 x6_3 y7_0 y7_1 y7_2 y7_3 a12_0 a12_1 a12_2 a12_3_1 b13_1 = some r ∧ s = (⟨125, [(1, J mode1), (4, .ptr 0 0), (6, .ptr 1 0), (7, .ptr 2 0), (12, .ptr 3 0), (13, U b13_1)], [.box [J s4_0, J s4_1], .box [J x6_0, J x6_1, U x6_2, J x6_3], .box [J y7_0, J y7_1, U y7_2, J y7_3], .box [U a12_0, U a12_1, J a12_2, .lit (.bool a12_3_1)]]⟩ : St)) ?_ ?_
    · rcases far11_1 with _ | _
      · have hj3 := bif_f hj2
        exact BackS.by ⟨_, _, hj3, rfl⟩ (Sees.of (Weak.objs (keep := [0, 1, 2, 3]) (frz := []) (m := 0) rfl (by decide) rfl rfl ⟨⟨_, rfl, WO.boxs ⟨.s, .s, trivial⟩⟩, ⟨⟨_, rfl, WO.boxs ⟨.s, .s, .s, .s, trivial⟩⟩, ⟨⟨_, rfl, WO.boxs ⟨.s, .s, .s, .s, trivial⟩⟩, ⟨⟨_, rfl, WO.boxs ⟨.s, .s, .s, .s, trivial⟩⟩, ⟨rfl, fun _ h => by cases h⟩⟩⟩⟩⟩ ⟨.s, (.ptr _ _ 0 rfl), (.ptr _ _ 1 rfl), (.ptr _ _ 2 rfl), (.ptr _ _ 3 rfl), .s, trivial⟩))
      have hj3 := bif_t hj2
      exact BackS.by ⟨_, _, hj3, rfl⟩ (Sees.of (Weak.objs (keep := [0, 1, 2, 3]) (frz := []) (m := 0) rfl (by decide) rfl rfl ⟨⟨_, rfl, WO.boxs ⟨.s, .s, trivial⟩⟩, ⟨⟨_, rfl, WO.boxs ⟨.s, .s, .s, .s, trivial⟩⟩, ⟨⟨_, rfl, WO.boxs ⟨.s, .s, .s, .s, trivial⟩⟩, ⟨⟨_, rfl, WO.boxs ⟨.s, .s, .s, .s, trivial⟩⟩, ⟨rfl, fun _ h => by cases h⟩⟩⟩⟩⟩ ⟨.s, (.ptr _ _ 0 rfl), (.ptr _ _ 1 rfl), (.ptr _ _ 2 rfl), (.ptr _ _ 3 rfl), .s, trivial⟩))
    rintro s ⟨a12_3_1, b13_1, hj0, rfl⟩
    unfold Flt.shape.sum.j2 at hj0
    obtain ⟨⟨t78_0, t78_1⟩, et78, hj1⟩ := bind_elim hj0
    conv => whnf
    refine Gate.go ?_
    conv => whnf
    refine CallN.by (v := .tup [U t78_0, U t78_1]) (Bits.Sub64_ok et78) rfl rfl ?_
    obtain ⟨⟨t85_0, t85_1⟩, et85, hj2⟩ := bind_elim hj1
    conv => whnf
    refine Gate.go ?_
    conv => whnf
    refine CallN.by (v := .tup [U t85_0, U t85_1]) (Bits.Sub64_ok et85) rfl rfl ?_
    conv => whnf
    refine CutN.of (fun s => ∃ (s4_0_1 s4_1_1 a12_0_1 a12_1_1 a12_2_1 : Int) (a12_3_2 : Bool) (lo15 hi17 sign18 : Int), Flt.shape.sum.j3 mode1 s4_0_1 s4_1_1 a12_0_1 a12_1_1 a12_2_1 a12_3_2 lo15 hi17 sign18 = some r ∧ s = (⟨125, [(1, J mode1), (4, .ptr 0 0), (12, .ptr 1 0), (15, U lo15), (17, U hi17), (18, J sign18)], [.box [J s4_0_1, J s4_1_1], .box [U a12_0_1, U a12_1_1, J a12_2_1, .lit (.bool a12_3_2)]]⟩ : St)) ?_ ?_
    · obtain ⟨t91, et91, hj3⟩ := letk_elim hj2
      conv => whnf
      refine Nm.mk ⟨t91, et91, ?_⟩
      rcases t91 with _ | _
      · have hj4 := bif_f hj3
        exact BackS.by ⟨_, _, _, _, _, _, _, _, _, hj4, rfl⟩ (Sees.of (Weak.objs (keep := [0, 3]) (frz := []) (m := 0) rfl (by decide) rfl rfl ⟨⟨_, rfl, WO.boxs ⟨.s, .s, trivial⟩⟩, ⟨⟨_, rfl, WO.boxs ⟨.s, .s, .s, .s, trivial⟩⟩, ⟨rfl, fun _ h => by cases h⟩⟩⟩ ⟨.s, (.ptr _ _ 0 rfl), (.ptr _ _ 1 rfl), .s, .s, .s, trivial⟩))
      have hj4 := bif_t hj3
      obtain ⟨⟨t96_0, t96_1⟩, et96, hj5⟩ := bind_elim hj4
      conv => whnf
      refine Gate.go ?_
      conv => whnf
      refine CallN.by (v := .tup [U t96_0, U t96_1]) (Bits.Sub64_ok et96) rfl rfl ?_
      obtain ⟨⟨t102_0, t102_1⟩, et102, hj6⟩ := bind_elim hj5
      conv => whnf
      refine Gate.go ?_
      conv => whnf
      refine CallN.by (v := .tup [U t102_0, U t102_1]) (Bits.Sub64_ok et102) rfl rfl ?_
      exact BackS.by ⟨_, _, _, _, _, _, _, _, _, hj6, rfl⟩ (Sees.of (Weak.objs (keep := [0, 3]) (frz := []) (m := 0) rfl (by decide) rfl rfl ⟨⟨_, rfl, WO.boxs ⟨.s, .s, trivial⟩⟩, ⟨⟨_, rfl, WO.boxs ⟨.s, .s, .s, .s, trivial⟩⟩, ⟨rfl, fun _ h => by cases h⟩⟩⟩ ⟨.s, (.ptr _ _ 0 rfl), (.ptr _ _ 1 rfl), .s, .s, .s, trivial⟩))
    rintro s ⟨s4_0_1, s4_1_1, a12_0_1, a12_1_1, a12_2_1, a12_3_2, lo15, hi17, sign18, hj0, rfl⟩
    unfold Flt.shape.sum.j3 at hj0
    conv => whnf
    refine CutN.of (fun s => ∃ (s4_0_2 s4_1_2 a12_0_2 a12_1_2 a12_2_2 : Int) (a12_3_3 : Bool), Flt.shape.sum.j4 mode1 lo15 hi17 sign18 s4_0_2 s4_1_2 a12_0_2 a12_1_2 a12_2_2 a12_3_3 = some r ∧ s = (⟨125, [(1, J mode1), (4, .ptr 0 0), (12, .ptr 1 0), (15, U lo15), (17, U hi17), (18, J sign18)], [.box [J s4_0_2, J s4_1_2], .box [U a12_0_2, U a12_1_2, J a12_2_2, .lit (.bool a12_3_3)]]⟩ : St)) ?_ ?_
    · conv => whnf
      refine CutN.of (fun s => ∃ (a12_3_4 t110 : Bool), Flt.shape.sum.j5 mode1 s4_0_1 s4_1_1 a12_0_1 a12_1_1 a12_2_1 lo15 hi17 sign18 a12_3_4 t110 = some r ∧ s = (⟨125, [(1, J mode1), (4, .ptr 0 0), (12, .ptr 1 0), (15, U lo15), (17, U hi17), (18, J sign18), (110, .lit (.bool t110))], [.box [J s4_0_1, J s4_1_1], .box [U a12_0_1, U a12_1_1, J a12_2_1, .lit (.bool a12_3_4)]]⟩ : St)) ?_ ?_
      · obtain ⟨t106, et106, hj1⟩ := letk_elim hj0
        conv => whnf
        refine Nm.mk ⟨t106, et106, ?_⟩
        rcases t106 with _ | _
        · have hj2 := bif_f hj1
          exact BackS.by ⟨_, _, hj2, rfl⟩ (Sees.of (Weak.objs (keep := [0, 1]) (frz := []) (m := 0) rfl (by decide) rfl rfl ⟨⟨_, rfl, WO.boxs ⟨.s, .s, trivial⟩⟩, ⟨⟨_, rfl, WO.boxs ⟨.s, .s, .s, .s, trivial⟩⟩, ⟨rfl, fun _ h => by cases h⟩⟩⟩ ⟨.s, (.ptr _ _ 0 rfl), (.ptr _ _ 1 rfl), .s, .s, .s, .s, trivial⟩))
        have hj2 := bif_t hj1
        obtain ⟨t109, et109, hj3⟩ := letk_elim hj2
        conv => whnf
        refine Nm.mk ⟨t109, et109, ?_⟩
        exact BackS.by ⟨_, _, hj3, rfl⟩ (Sees.of (Weak.objs (keep := [0, 1]) (frz := []) (m := 0) rfl (by decide) rfl rfl ⟨⟨_, rfl, WO.boxs ⟨.s, .s, trivial⟩⟩, ⟨⟨_, rfl, WO.boxs ⟨.s, .s, .s, .s, trivial⟩⟩, ⟨rfl, fun _ h => by cases h⟩⟩⟩ ⟨.s, (.ptr _ _ 0 rfl), (.ptr _ _ 1 rfl), .s, .s, .s, .s, trivial⟩))
      rintro s ⟨a12_3_4, t110, hj0, rfl⟩
      unfold Flt.shape.sum.j5 at hj0
      rcases t110 with _ | _
      · have hj1 := bif_f hj0
        exact BackS.by ⟨_, _, _, _, _, _, hj1, rfl⟩ (Sees.of (Weak.objs (keep := [0, 1]) (frz := []) (m := 0) rfl (by decide) rfl rfl ⟨⟨_, rfl, WO.boxs ⟨.s, .s, trivial⟩⟩, ⟨⟨_, rfl, WO.boxs ⟨.s, .s, .s, .s, trivial⟩⟩, ⟨rfl, fun _ h => by cases h⟩⟩⟩ ⟨.s, (.ptr _ _ 0 rfl), (.ptr _ _ 1 rfl), .s, .s, .s, trivial⟩))
      have hj1 := bif_t hj0
      obtain ⟨t113, et113, hj2⟩ := bind_elim hj1
      conv => whnf
      refine Gate.go ?_
      conv => whnf
      refine CallN.by (v := J t113) (Flt.shape.none_ok et113) rfl rfl ?_
      have ehj2_0 := Option.some.inj hj2
      subst ehj2_0
      conv => whnf
      exact Returns.pure (r := .tup [J t113, J 0]) rfl rfl rfl rfl ⟨rfl, rfl⟩
    rintro s ⟨s4_0_2, s4_1_2, a12_0_2, a12_1_2, a12_2_2, a12_3_3, hj0, rfl⟩
    unfold Flt.shape.sum.j4 at hj0
    conv => whnf
    refine Nm.mk ⟨[U hi17, U a12_1_2, J a12_2_2, .lit (.bool a12_3_3)], rfl, ?_⟩
    conv => whnf
    refine Nm.mk ⟨[U hi17, U lo15, J a12_2_2, .lit (.bool a12_3_3)], rfl, ?_⟩
    obtain ⟨⟨t122_0, t122_1⟩, et122, hj1⟩ := bind_elim hj0
    conv => whnf
    refine Gate.go ?_
    conv => whnf
    refine CallN.by (v := .tup [J t122_0, J t122_1]) (Flt.shape.round_ok et122) rfl rfl ?_
    have ehj1_0 := Option.some.inj hj1
    subst ehj1_0
    conv => whnf
    exact Returns.pure (r := .tup [J t122_0, J t122_1]) rfl rfl rfl rfl ⟨rfl, rfl⟩
  have hj2 := bif_t hj1
  obtain ⟨⟨t56_0, t56_1⟩, et56, hj3⟩ := bind_elim hj2
  conv => whnf
  refine Gate.go ?_
  conv => whnf
  refine CallN.by (v := .tup [U t56_0, U t56_1]) (Bits.Add64_ok et56) rfl rfl ?_
  conv => whnf
  refine Nm.mk ⟨[U a12_0, U t56_0, J a12_2, .lit (.bool a12_3)], rfl, ?_⟩
  obtain ⟨t63, et63, hj4⟩ := letk_elim hj3
  conv => whnf
  refine Nm.mk ⟨t63, et63, ?_⟩
  conv => whnf
  refine Nm.mk ⟨[U t63, U t56_0, J a12_2, .lit (.bool a12_3)], rfl, ?_⟩
  obtain ⟨⟨t70_0, t70_1⟩, et70, hj5⟩ := bind_elim hj4
  conv => whnf
  refine Gate.go ?_
  conv => whnf
  refine CallN.by (v := .tup [J t70_0, J t70_1]) (Flt.shape.round_ok et70) rfl rfl ?_
  have ehj5_0 := Option.some.inj hj5
  subst ehj5_0
  conv => whnf
  exact Returns.pure (r := .tup [J t70_0, J t70_1]) rfl rfl rfl rfl ⟨rfl, rfl⟩

end Go.Q
