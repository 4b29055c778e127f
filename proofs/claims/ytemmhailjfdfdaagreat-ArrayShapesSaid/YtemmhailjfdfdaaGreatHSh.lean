import Derived.Test.YtemmhailjfdfdaaGreatVS
import Derived.Test.YtemmhailjfdfdaaGreatRows
import Derived.Test.YtemmhailjfdfdaaGreatZA
namespace Go.Q
open Go Go.Proofs Go.RowKit Go.ChangeShapes Go.WideShapes Go.ChangeAt
open Go.Proofs.YtemmhailjfdfdaaGreat
set_option maxRecDepth 100000
set_option maxHeartbeats 4000000
theorem own_arrayShapes : ownKnob Tryz.prog.godebug = none := by kernel_rfl
theorem laidOut_arrayShapes : laidOutB Tryz.prog = true := by kernel_rfl
theorem params_arrayShapes : Tryz.f5.params = #[26, 3] := by kernel_rfl
theorem bool_arrayShapes : Tryz.prog.underlying 4 = some .bool := by kernel_rfl
theorem read26_arrayShapes : Tryz.prog.readableRec 26 = true := by kernel_rfl
theorem row26_arrayShapes : 26 < Tryz.prog.types.size := by rw [show Tryz.prog.types.size = 184 by kernel_rfl]; decide
theorem s26_arrayShapes : Tryz.prog.underlying 26 = some (.struct #[{ name := "Kind", type := 3, offset := 0, embedded := false, tag := "", pkgPath := "", byteOffset := 0 }, { name := "Shape", type := 24, offset := 1, embedded := false, tag := "", pkgPath := "", byteOffset := 8 }, { name := "Elems", type := 24, offset := 2, embedded := false, tag := "", pkgPath := "", byteOffset := 32 }]) := by kernel_rfl
theorem c26_arrayShapes : Tryz.prog.cellsOf 26 = 3 := by kernel_rfl
theorem u3_arrayShapes : Tryz.prog.underlying 3 = some (.int .i64) := by kernel_rfl
theorem u24_arrayShapes : Tryz.prog.underlying 24 = some (.slice 3) := by kernel_rfl
theorem c3_arrayShapes : Tryz.prog.cellsOf 3 = 1 := by kernel_rfl
theorem c24_arrayShapes : Tryz.prog.cellsOf 24 = 1 := by kernel_rfl
def Pred26_arrayShapes (x : api.Array) : Prop := (-9223372036854775808 ≤ x.Kind ∧ x.Kind < 9223372036854775808) ∧ ((x.Shape.length < 2 ^ 63 ∧ ∀ n ∈ x.Shape, -9223372036854775808 ≤ n ∧ n < 9223372036854775808)) ∧ ((x.Elems.length < 2 ^ 63 ∧ ∀ n ∈ x.Elems, -9223372036854775808 ≤ n ∧ n < 9223372036854775808))
theorem opn26_arrayShapes {H : Type} (enc : TypeId × Value → H) (w : World) (sp : Nat → Bool) (held : Bool) : ∀ f, Opn Tryz.prog enc w sp held 26 (fun a => ∃ x : api.Array, a = x.enc ∧ Pred26_arrayShapes x) f
  | 0 => Opn.zero
  | f + 1 => by
    refine (Opn.struct (fs := #[{ name := "Kind", type := 3, offset := 0, embedded := false, tag := "", pkgPath := "", byteOffset := 0 }, { name := "Shape", type := 24, offset := 1, embedded := false, tag := "", pkgPath := "", byteOffset := 8 }, { name := "Elems", type := 24, offset := 2, embedded := false, tag := "", pkgPath := "", byteOffset := 32 }]) (As := [(fun a => ∃ n : Int, a = eI .i64 n ∧ -9223372036854775808 ≤ n ∧ n < 9223372036854775808), (fun a => ∃ l : List Int, a = .vs 1 (l.map (eI .i64)) ∧ l.length < 2 ^ 63 ∧ ∀ n ∈ l, -9223372036854775808 ≤ n ∧ n < 9223372036854775808), (fun a => ∃ l : List Int, a = .vs 1 (l.map (eI .i64)) ∧ l.length < 2 ^ 63 ∧ ∀ n ∈ l, -9223372036854775808 ≤ n ∧ n < 9223372036854775808)]) s26_arrayShapes c26_arrayShapes rfl (fun i fd A hf hA => ?_)).imp ?_
    · match i, hf, hA with
      | 0, hf, hA => cases Option.some.inj hf; cases Option.some.inj hA; exact ⟨rfl, c3_arrayShapes, by rintro _ ⟨_, rfl, _⟩; rfl, Opn.i64 u3_arrayShapes f⟩
      | 1, hf, hA => cases Option.some.inj hf; cases Option.some.inj hA; exact ⟨rfl, c24_arrayShapes, by rintro _ ⟨_, rfl, _⟩; rfl, Opn.ints u24_arrayShapes u3_arrayShapes c3_arrayShapes f⟩
      | 2, hf, hA => cases Option.some.inj hf; cases Option.some.inj hA; exact ⟨rfl, c24_arrayShapes, by rintro _ ⟨_, rfl, _⟩; rfl, Opn.ints u24_arrayShapes u3_arrayShapes c3_arrayShapes f⟩
      | j + 3, hf, _ => simp at hf
    · rintro _ ⟨ls, rfl, hl, h⟩
      match ls, hl with
      | [a0, a1, a2], _ =>
        obtain ⟨x0, rfl, h0⟩ := h 0 _ a0 rfl rfl
        obtain ⟨x1, rfl, h1⟩ := h 1 _ a1 rfl rfl
        obtain ⟨x2, rfl, h2⟩ := h 2 _ a2 rfl rfl
        exact ⟨⟨x0, x1, x2⟩, rfl, h0, h1, h2⟩
theorem read3_arrayShapes : Tryz.prog.readableRec 3 = true := by kernel_rfl
theorem row3_arrayShapes : 3 < Tryz.prog.types.size := by rw [show Tryz.prog.types.size = 184 by kernel_rfl]; decide
abbrev lays_arrayShapes : List (String × DataW Unit) := YtemmhailjfdfdaaGreat.Rows.arrayShapesRow.laid
noncomputable def world_arrayShapes (os : Os) : World := (World.holding Tryz.prog os ⟨#[], #[], []⟩).layVars Tryz.prog lays_arrayShapes
theorem gives_arrayShapes (x0 : api.Array) (hx0 : Pred26_arrayShapes x0) (x1 : Int) (hx1 : -9223372036854775808 ≤ x1 ∧ x1 < 9223372036854775808) : Gives Tryz.prog 5 [api.Array.enc x0, .lit (.int .i64 x1)] (.lit (.bool true)) := Law7.ArrayShapes_ok (ArrayShapes_eq x0 x1 ⟨hx0.2.2.2, hx0.2.2.1, hx0.2.1.1⟩)
theorem lifted_arrayShapes (os : Os) (started : os.Started) (H : Type) (enc : TypeId × Value → H) :
    ReturnsInHanded {} Tryz.checked os 5 .any (fun w args => (Rows.arrayShapesSpec.pre enc Tryz.prog Tryz.f5 Rows.arrayShapesRow.domain false w args ∧ True) ∧ sizedMet enc Tryz.prog Tryz.f5 (OpenSpec.ofChange Rows.arrayShapesSpec) false w args)
      (Rows.arrayShapesSpec.post enc Tryz.prog Tryz.f5 false true false false) := by
  refine returns_of_change_open (C := Tryz.checked) (X := fun w _ => True) (fun _ _ _ _ h => h) own_arrayShapes started (by kernel_rfl) Tryz.func5
    (ChangeSpec.witness_at (enc := enc) (C := Tryz.checked) (os := os) (X := fun w _ => True) false (world_arrayShapes os) #[.agg #[.int .i64 0, .slice none 0 0, .slice none 0 0], .int .i64 0] 8 (World.layVars_os _ _ _) (by kernel_rfl) (by kernel_rfl) (by kernel_rfl) (by kernel_rfl) (by kernel_rfl) trivial) ?_
  intro W base args ds gs before hval0 hW hopen hX
  have hW' := hW
  obtain ⟨p, q, hA0, hV, rfl, _⟩ := hW
  have hA : DataW.TrodAll enc Tryz.prog W 0 (fun _ => true) true Tryz.f5.params.toList args.toList ds p := hA0
  rw [params_arrayShapes] at hA
  obtain ⟨v0, v1, d0, d1, p0, p1, rfl, rfl, rfl, h0, h1⟩ := trodAll_two hA
  obtain ⟨rfl, rfl⟩ : gs = [] ∧ q = [] := by
    cases gs with
    | nil => exact ⟨rfl, hV⟩
    | cons g r => exact absurd hV (by intro h; cases h)
  obtain ⟨_, ⟨x0, rfl, k0⟩, r0⟩ := Opn.arg_struct s26_arrayShapes (opn26_arrayShapes enc W (fun _ => true) true) (by rintro _ ⟨_, rfl, _⟩; exact ⟨_, rfl⟩) (hval0 0 26 v0 (by rw [params_arrayShapes]; rfl) rfl) h0
  obtain ⟨x1, e1, _⟩ := open_int u3_arrayShapes (hval0 1 3 v1 (by rw [params_arrayShapes]; rfl) rfl) h1
  subst e1
  have k1 : -9223372036854775808 ≤ x1 ∧ x1 < 9223372036854775808 := by
    obtain ⟨fu, hh⟩ := h1
    obtain ⟨m, e, _, hs⟩ := DataW.trod_int u3_arrayShapes hh
    cases e
    unfold Lit.wf at hs
    simp only [Bool.and_eq_true, decide_eq_true_eq] at hs
    have e1 : (IntKind.max .i64 : Int) = 9223372036854775807 := rfl
    have e2 : (IntKind.min .i64 : Int) = -9223372036854775808 := rfl
    omega
  have espec : Rows.arrayShapesSpec.fn H ([d0, d1] ++ []) = { results := [.lit (.bool true)], args := [d0, d1] } := rfl
  refine (Gives.calls Tryz.func5 rfl (by kernel_rfl) (gives_arrayShapes x0 k0 x1 k1) W #[v0, .int .i64 x1] (Knows.none _ _) ⟨rfl, fun i hi => by
    match i, hi with
    | 0, _ => exact r0
    | 1, _ => exact (.lit _ _)⟩).mono fun e W' ⟨he, hk, hg, hs⟩ => ?_
  subst he
  have hlt := DataW.TrodAll.lt hA0
  refine ⟨_, rfl, _, _, _, [], p0 ++ p1, [], hW', ?_, ?_, ?_, ?_, fun h => by cases h⟩
  · rw [espec]; exact trodAll_mk1 (shut_bool bool_arrayShapes true)
  · rw [espec]
    exact trodAll_mk2 (WideElems.Trod_stays laidOut_arrayShapes read26_arrayShapes row26_arrayShapes h0 (fun x hx => by
      have hp := hlt x (by simp [hx])
      cases x with
      | cell b o => exact World.cell?_of_block (w := W) (hs b hp)
      | map b => exact hs b hp) (fun x hx => by simpa using hlt x (by simp [hx]))) (WideElems.Trod_stays laidOut_arrayShapes read3_arrayShapes row3_arrayShapes h1 (fun x hx => by
      have hp := hlt x (by simp [hx])
      cases x with
      | cell b o => exact World.cell?_of_block (w := W) (hs b hp)
      | map b => exact hs b hp) (fun x hx => by simpa using hlt x (by simp [hx])))
  · rw [espec]; rfl
  · refine ⟨hk.1, hk.2.1, fun i hi => ?_⟩
    have := hk.2.2 i hi
    rw [hs i hi]
    split <;> simp_all
theorem arrayShapes_holds : Rows.ArrayShapesSaid :=
  OpenClaim.holds_of_wide 5 Tryz.f5 rfl rfl rfl rfl rfl rfl rfl ⟨rfl, rfl, rfl, rfl, rfl⟩ rfl rfl rfl rfl rfl (by kernel_rfl) Tryz.func5 (by kernel_rfl)
    (of_decide_eq_true (by kernel_rfl)) (by unfold Func.isWrapper; rw [if_neg (of_decide_eq_false (by kernel_rfl))]; exact ⟨rfl, rfl⟩)
    (fun os started H enc _ => by
      have h := lifted_arrayShapes os started H enc
      simp only [and_true] at h
      exact h)
end Go.Q
namespace Go.Proofs.YtemmhailjfdfdaaGreat
theorem arrayShapes_proved : Rows.ArrayShapesSaid := Go.Q.arrayShapes_holds
end Go.Proofs.YtemmhailjfdfdaaGreat
#print axioms Go.Proofs.YtemmhailjfdfdaaGreat.arrayShapes_proved
