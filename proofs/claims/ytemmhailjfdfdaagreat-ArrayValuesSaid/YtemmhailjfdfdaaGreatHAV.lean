import Derived.Test.YtemmhailjfdfdaaGreatVC
import Derived.Test.YtemmhailjfdfdaaGreatRows
import Derived.Test.YtemmhailjfdfdaaGreatZA
namespace Go.Q
open Go Go.Proofs Go.RowKit Go.ChangeShapes Go.WideShapes Go.ChangeAt
open Go.Proofs.YtemmhailjfdfdaaGreat
set_option maxRecDepth 100000
set_option maxHeartbeats 4000000
theorem own_arrayValues : ownKnob Tryz.prog.godebug = none := by kernel_rfl
theorem laidOut_arrayValues : laidOutB Tryz.prog = true := by kernel_rfl
theorem params_arrayValues : Tryz.f9.params = #[9, 45, 45] := by kernel_rfl
theorem bool_arrayValues : Tryz.prog.underlying 4 = some .bool := by kernel_rfl
theorem read9_arrayValues : Tryz.prog.readableRec 9 = true := by kernel_rfl
theorem row9_arrayValues : 9 < Tryz.prog.types.size := by rw [show Tryz.prog.types.size = 184 by kernel_rfl]; decide
theorem u9_arrayValues : Tryz.prog.underlying 9 = some (.string) := by kernel_rfl
theorem read45_arrayValues : Tryz.prog.readableRec 45 = true := by kernel_rfl
theorem row45_arrayValues : 45 < Tryz.prog.types.size := by rw [show Tryz.prog.types.size = 184 by kernel_rfl]; decide
theorem s45_arrayValues : Tryz.prog.underlying 45 = some (.struct #[{ name := "Kind", type := 3, offset := 0, embedded := false, tag := "", pkgPath := "", byteOffset := 0 }, { name := "N", type := 3, offset := 1, embedded := false, tag := "", pkgPath := "", byteOffset := 8 }]) := by kernel_rfl
theorem c45_arrayValues : Tryz.prog.cellsOf 45 = 2 := by kernel_rfl
theorem u3_arrayValues : Tryz.prog.underlying 3 = some (.int .i64) := by kernel_rfl
theorem c3_arrayValues : Tryz.prog.cellsOf 3 = 1 := by kernel_rfl
def Pred45_arrayValues (x : api.Value) : Prop := (-9223372036854775808 ≤ x.Kind ∧ x.Kind < 9223372036854775808) ∧ (-9223372036854775808 ≤ x.N ∧ x.N < 9223372036854775808)
theorem opn45_arrayValues {H : Type} (enc : TypeId × Value → H) (w : World) (sp : Nat → Bool) (held : Bool) : ∀ f, Opn Tryz.prog enc w sp held 45 (fun a => ∃ x : api.Value, a = x.enc ∧ Pred45_arrayValues x) f
  | 0 => Opn.zero
  | f + 1 => by
    refine (Opn.struct (fs := #[{ name := "Kind", type := 3, offset := 0, embedded := false, tag := "", pkgPath := "", byteOffset := 0 }, { name := "N", type := 3, offset := 1, embedded := false, tag := "", pkgPath := "", byteOffset := 8 }]) (As := [(fun a => ∃ n : Int, a = eI .i64 n ∧ -9223372036854775808 ≤ n ∧ n < 9223372036854775808), (fun a => ∃ n : Int, a = eI .i64 n ∧ -9223372036854775808 ≤ n ∧ n < 9223372036854775808)]) s45_arrayValues c45_arrayValues rfl (fun i fd A hf hA => ?_)).imp ?_
    · match i, hf, hA with
      | 0, hf, hA => cases Option.some.inj hf; cases Option.some.inj hA; exact ⟨rfl, c3_arrayValues, by rintro _ ⟨_, rfl, _⟩; rfl, Opn.i64 u3_arrayValues f⟩
      | 1, hf, hA => cases Option.some.inj hf; cases Option.some.inj hA; exact ⟨rfl, c3_arrayValues, by rintro _ ⟨_, rfl, _⟩; rfl, Opn.i64 u3_arrayValues f⟩
      | j + 2, hf, _ => simp at hf
    · rintro _ ⟨ls, rfl, hl, h⟩
      match ls, hl with
      | [a0, a1], _ =>
        obtain ⟨x0, rfl, h0⟩ := h 0 _ a0 rfl rfl
        obtain ⟨x1, rfl, h1⟩ := h 1 _ a1 rfl rfl
        exact ⟨⟨x0, x1⟩, rfl, h0, h1⟩
abbrev lays_arrayValues : List (String × DataW Unit) := YtemmhailjfdfdaaGreat.Rows.arrayValuesRow.laid
noncomputable def world_arrayValues (os : Os) : World := (World.holding Tryz.prog os ⟨#[], #[], []⟩).layVars Tryz.prog lays_arrayValues
theorem gives_arrayValues (x0 : ByteArray) (hx0 : x0.size ≤ maxLen) (x1 : api.Value) (hx1 : Pred45_arrayValues x1) (x2 : api.Value) (hx2 : Pred45_arrayValues x2) : Gives Tryz.prog 9 [.lit (.string x0), api.Value.enc x1, api.Value.enc x2] (.lit (.bool true)) := Law7.ArrayValues_ok (ArrayValues_eq x0 x1 x2 hx1.2 hx2.2)
theorem lifted_arrayValues (os : Os) (started : os.Started) (H : Type) (enc : TypeId × Value → H) :
    ReturnsInHanded {} Tryz.checked os 9 .any (fun w args => (Rows.arrayValuesSpec.pre enc Tryz.prog Tryz.f9 Rows.arrayValuesRow.domain false w args ∧ True) ∧ sizedMet enc Tryz.prog Tryz.f9 (OpenSpec.ofChange Rows.arrayValuesSpec) false w args)
      (Rows.arrayValuesSpec.post enc Tryz.prog Tryz.f9 false true false false) := by
  refine returns_of_change_open (C := Tryz.checked) (X := fun w _ => True) (fun _ _ _ _ h => h) own_arrayValues started (by kernel_rfl) Tryz.func9
    (ChangeSpec.witness_at (enc := enc) (C := Tryz.checked) (os := os) (X := fun w _ => True) false (world_arrayValues os) #[.string ⟨#[]⟩, .agg #[.int .i64 0, .int .i64 0], .agg #[.int .i64 0, .int .i64 0]] 8 (World.layVars_os _ _ _) (by kernel_rfl) (by kernel_rfl) (by kernel_rfl) (by kernel_rfl) (by kernel_rfl) trivial) ?_
  intro W base args ds gs before hval0 hW hopen hX
  have hW' := hW
  obtain ⟨p, q, hA0, hV, rfl, _⟩ := hW
  have hA : DataW.TrodAll enc Tryz.prog W 0 (fun _ => true) true Tryz.f9.params.toList args.toList ds p := hA0
  rw [params_arrayValues] at hA
  obtain ⟨v0, v1, v2, d0, d1, d2, p0, p1, p2, rfl, rfl, rfl, h0, h1, h2⟩ := trodAll_three hA
  obtain ⟨rfl, rfl⟩ : gs = [] ∧ q = [] := by
    cases gs with
    | nil => exact ⟨rfl, hV⟩
    | cons g r => exact absurd hV (by intro h; cases h)
  obtain ⟨x0, e0, _⟩ := Go.ChangeMaps.open_string u9_arrayValues (hval0 0 9 v0 (by rw [params_arrayValues]; rfl) rfl) h0
  subst e0
  have k0 : x0.size ≤ maxLen := by
    obtain ⟨fu, hh⟩ := h0
    obtain ⟨s, e, _, hs⟩ := DataW.trod_string u9_arrayValues hh
    cases e; exact hs
  obtain ⟨_, ⟨x1, rfl, k1⟩, r1⟩ := Opn.arg_struct s45_arrayValues (opn45_arrayValues enc W (fun _ => true) true) (by rintro _ ⟨_, rfl, _⟩; exact ⟨_, rfl⟩) (hval0 1 45 v1 (by rw [params_arrayValues]; rfl) rfl) h1
  obtain ⟨_, ⟨x2, rfl, k2⟩, r2⟩ := Opn.arg_struct s45_arrayValues (opn45_arrayValues enc W (fun _ => true) true) (by rintro _ ⟨_, rfl, _⟩; exact ⟨_, rfl⟩) (hval0 2 45 v2 (by rw [params_arrayValues]; rfl) rfl) h2
  have espec : Rows.arrayValuesSpec.fn H ([d0, d1, d2] ++ []) = { results := [.lit (.bool true)], args := [d0, d1, d2] } := rfl
  refine (Gives.calls Tryz.func9 rfl (by kernel_rfl) (gives_arrayValues x0 k0 x1 k1 x2 k2) W #[.string x0, v1, v2] (Knows.none _ _) ⟨rfl, fun i hi => by
    match i, hi with
    | 0, _ => exact (.lit _ _)
    | 1, _ => exact r1
    | 2, _ => exact r2⟩).mono fun e W' ⟨he, hk, hg, hs⟩ => ?_
  subst he
  have hlt := DataW.TrodAll.lt hA0
  refine ⟨_, rfl, _, _, _, [], p0 ++ (p1 ++ p2), [], hW', ?_, ?_, ?_, ?_, fun h => by cases h⟩
  · rw [espec]; exact trodAll_mk1 (shut_bool bool_arrayValues true)
  · rw [espec]
    exact trodAll_mk3 (WideElems.Trod_stays laidOut_arrayValues read9_arrayValues row9_arrayValues h0 (fun x hx => by
      have hp := hlt x (by simp [hx])
      cases x with
      | cell b o => exact World.cell?_of_block (w := W) (hs b hp)
      | map b => exact hs b hp) (fun x hx => by simpa using hlt x (by simp [hx]))) (WideElems.Trod_stays laidOut_arrayValues read45_arrayValues row45_arrayValues h1 (fun x hx => by
      have hp := hlt x (by simp [hx])
      cases x with
      | cell b o => exact World.cell?_of_block (w := W) (hs b hp)
      | map b => exact hs b hp) (fun x hx => by simpa using hlt x (by simp [hx]))) (WideElems.Trod_stays laidOut_arrayValues read45_arrayValues row45_arrayValues h2 (fun x hx => by
      have hp := hlt x (by simp [hx])
      cases x with
      | cell b o => exact World.cell?_of_block (w := W) (hs b hp)
      | map b => exact hs b hp) (fun x hx => by simpa using hlt x (by simp [hx])))
  · rw [espec]; rfl
  · refine ⟨hk.1, hk.2.1, fun i hi => ?_⟩
    have := hk.2.2 i hi
    rw [hs i hi]
    split <;> simp_all
theorem arrayValues_holds : Rows.ArrayValuesSaid :=
  OpenClaim.holds_of_wide 9 Tryz.f9 rfl rfl rfl rfl rfl rfl rfl ⟨rfl, rfl, rfl, rfl, rfl⟩ rfl rfl rfl rfl rfl (by kernel_rfl) Tryz.func9 (by kernel_rfl)
    (of_decide_eq_true (by kernel_rfl)) (by unfold Func.isWrapper; rw [if_neg (of_decide_eq_false (by kernel_rfl))]; exact ⟨rfl, rfl⟩)
    (fun os started H enc _ => by
      have h := lifted_arrayValues os started H enc
      simp only [and_true] at h
      exact h)
end Go.Q
namespace Go.Proofs.YtemmhailjfdfdaaGreat
theorem arrayValues_proved : Rows.ArrayValuesSaid := Go.Q.arrayValues_holds
end Go.Proofs.YtemmhailjfdfdaaGreat
#print axioms Go.Proofs.YtemmhailjfdfdaaGreat.arrayValues_proved
