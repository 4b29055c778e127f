import Derived.Test.YtemmhailjfdfdaaGreatVE
import Derived.Test.YtemmhailjfdfdaaGreatRows
import Derived.Test.YtemmhailjfdfdaaGreatZA
namespace Go.Q
open Go Go.Proofs Go.RowKit Go.ChangeShapes Go.WideShapes Go.ChangeAt
open Go.Proofs.YtemmhailjfdfdaaGreat
set_option maxRecDepth 100000
set_option maxHeartbeats 4000000
theorem own_arrayDoes : ownKnob Tryz.prog.godebug = none := by kernel_rfl
theorem laidOut_arrayDoes : laidOutB Tryz.prog = true := by kernel_rfl
theorem params_arrayDoes : Tryz.f6.params = #[9, 26, 26] := by kernel_rfl
theorem bool_arrayDoes : Tryz.prog.underlying 4 = some .bool := by kernel_rfl
theorem read9_arrayDoes : Tryz.prog.readableRec 9 = true := by kernel_rfl
theorem row9_arrayDoes : 9 < Tryz.prog.types.size := by rw [show Tryz.prog.types.size = 184 by kernel_rfl]; decide
theorem u9_arrayDoes : Tryz.prog.underlying 9 = some (.string) := by kernel_rfl
theorem read26_arrayDoes : Tryz.prog.readableRec 26 = true := by kernel_rfl
theorem row26_arrayDoes : 26 < Tryz.prog.types.size := by rw [show Tryz.prog.types.size = 184 by kernel_rfl]; decide
theorem s26_arrayDoes : Tryz.prog.underlying 26 = some (.struct #[{ name := "Kind", type := 3, offset := 0, embedded := false, tag := "", pkgPath := "", byteOffset := 0 }, { name := "Shape", type := 24, offset := 1, embedded := false, tag := "", pkgPath := "", byteOffset := 8 }, { name := "Elems", type := 24, offset := 2, embedded := false, tag := "", pkgPath := "", byteOffset := 32 }]) := by kernel_rfl
theorem c26_arrayDoes : Tryz.prog.cellsOf 26 = 3 := by kernel_rfl
theorem u3_arrayDoes : Tryz.prog.underlying 3 = some (.int .i64) := by kernel_rfl
theorem u24_arrayDoes : Tryz.prog.underlying 24 = some (.slice 3) := by kernel_rfl
theorem c3_arrayDoes : Tryz.prog.cellsOf 3 = 1 := by kernel_rfl
theorem c24_arrayDoes : Tryz.prog.cellsOf 24 = 1 := by kernel_rfl
def Pred26_arrayDoes (x : api.Array) : Prop := (-9223372036854775808 ≤ x.Kind ∧ x.Kind < 9223372036854775808) ∧ ((x.Shape.length < 2 ^ 63 ∧ ∀ n ∈ x.Shape, -9223372036854775808 ≤ n ∧ n < 9223372036854775808)) ∧ ((x.Elems.length < 2 ^ 63 ∧ ∀ n ∈ x.Elems, -9223372036854775808 ≤ n ∧ n < 9223372036854775808))
theorem opn26_arrayDoes {H : Type} (enc : TypeId × Value → H) (w : World) (sp : Nat → Bool) (held : Bool) : ∀ f, Opn Tryz.prog enc w sp held 26 (fun a => ∃ x : api.Array, a = x.enc ∧ Pred26_arrayDoes x) f
  | 0 => Opn.zero
  | f + 1 => by
    refine (Opn.struct (fs := #[{ name := "Kind", type := 3, offset := 0, embedded := false, tag := "", pkgPath := "", byteOffset := 0 }, { name := "Shape", type := 24, offset := 1, embedded := false, tag := "", pkgPath := "", byteOffset := 8 }, { name := "Elems", type := 24, offset := 2, embedded := false, tag := "", pkgPath := "", byteOffset := 32 }]) (As := [(fun a => ∃ n : Int, a = eI .i64 n ∧ -9223372036854775808 ≤ n ∧ n < 9223372036854775808), (fun a => ∃ l : List Int, a = .vs 1 (l.map (eI .i64)) ∧ l.length < 2 ^ 63 ∧ ∀ n ∈ l, -9223372036854775808 ≤ n ∧ n < 9223372036854775808), (fun a => ∃ l : List Int, a = .vs 1 (l.map (eI .i64)) ∧ l.length < 2 ^ 63 ∧ ∀ n ∈ l, -9223372036854775808 ≤ n ∧ n < 9223372036854775808)]) s26_arrayDoes c26_arrayDoes rfl (fun i fd A hf hA => ?_)).imp ?_
    · match i, hf, hA with
      | 0, hf, hA => cases Option.some.inj hf; cases Option.some.inj hA; exact ⟨rfl, c3_arrayDoes, by rintro _ ⟨_, rfl, _⟩; rfl, Opn.i64 u3_arrayDoes f⟩
      | 1, hf, hA => cases Option.some.inj hf; cases Option.some.inj hA; exact ⟨rfl, c24_arrayDoes, by rintro _ ⟨_, rfl, _⟩; rfl, Opn.ints u24_arrayDoes u3_arrayDoes c3_arrayDoes f⟩
      | 2, hf, hA => cases Option.some.inj hf; cases Option.some.inj hA; exact ⟨rfl, c24_arrayDoes, by rintro _ ⟨_, rfl, _⟩; rfl, Opn.ints u24_arrayDoes u3_arrayDoes c3_arrayDoes f⟩
      | j + 3, hf, _ => simp at hf
    · rintro _ ⟨ls, rfl, hl, h⟩
      match ls, hl with
      | [a0, a1, a2], _ =>
        obtain ⟨x0, rfl, h0⟩ := h 0 _ a0 rfl rfl
        obtain ⟨x1, rfl, h1⟩ := h 1 _ a1 rfl rfl
        obtain ⟨x2, rfl, h2⟩ := h 2 _ a2 rfl rfl
        exact ⟨⟨x0, x1, x2⟩, rfl, h0, h1, h2⟩
abbrev lays_arrayDoes : List (String × DataW Unit) := YtemmhailjfdfdaaGreat.Rows.arrayDoesRow.laid
noncomputable def world_arrayDoes (os : Os) : World := (World.holding Tryz.prog os ⟨#[], #[], []⟩).layVars Tryz.prog lays_arrayDoes
theorem gives_arrayDoes (x0 : ByteArray) (hx0 : x0.size ≤ maxLen) (x1 : api.Array) (hx1 : Pred26_arrayDoes x1) (x2 : api.Array) (hx2 : Pred26_arrayDoes x2) : Gives Tryz.prog 6 [.lit (.string x0), api.Array.enc x1, api.Array.enc x2] (.lit (.bool true)) := Law7.ArrayDoes_ok (ArrayDoes_eq x0 x1 x2 ⟨hx1.2.2.2, hx1.2.2.1, hx1.2.1.1⟩ ⟨hx2.2.2.2, hx2.2.2.1, hx2.2.1.1⟩)
theorem lifted_arrayDoes (os : Os) (started : os.Started) (H : Type) (enc : TypeId × Value → H) :
    ReturnsInHanded {} Tryz.checked os 6 .any (fun w args => (Rows.arrayDoesSpec.pre enc Tryz.prog Tryz.f6 Rows.arrayDoesRow.domain false w args ∧ True) ∧ sizedMet enc Tryz.prog Tryz.f6 (OpenSpec.ofChange Rows.arrayDoesSpec) false w args)
      (Rows.arrayDoesSpec.post enc Tryz.prog Tryz.f6 false true false false) := by
  refine returns_of_change_open (C := Tryz.checked) (X := fun w _ => True) (fun _ _ _ _ h => h) own_arrayDoes started (by kernel_rfl) Tryz.func6
    (ChangeSpec.witness_at (enc := enc) (C := Tryz.checked) (os := os) (X := fun w _ => True) false (world_arrayDoes os) #[.string ⟨#[]⟩, .agg #[.int .i64 0, .slice none 0 0, .slice none 0 0], .agg #[.int .i64 0, .slice none 0 0, .slice none 0 0]] 8 (World.layVars_os _ _ _) (by kernel_rfl) (by kernel_rfl) (by kernel_rfl) (by kernel_rfl) (by kernel_rfl) trivial) ?_
  intro W base args ds gs before hval0 hW hopen hX
  have hW' := hW
  obtain ⟨p, q, hA0, hV, rfl, _⟩ := hW
  have hA : DataW.TrodAll enc Tryz.prog W 0 (fun _ => true) true Tryz.f6.params.toList args.toList ds p := hA0
  rw [params_arrayDoes] at hA
  obtain ⟨v0, v1, v2, d0, d1, d2, p0, p1, p2, rfl, rfl, rfl, h0, h1, h2⟩ := trodAll_three hA
  obtain ⟨rfl, rfl⟩ : gs = [] ∧ q = [] := by
    cases gs with
    | nil => exact ⟨rfl, hV⟩
    | cons g r => exact absurd hV (by intro h; cases h)
  obtain ⟨x0, e0, _⟩ := Go.ChangeMaps.open_string u9_arrayDoes (hval0 0 9 v0 (by rw [params_arrayDoes]; rfl) rfl) h0
  subst e0
  have k0 : x0.size ≤ maxLen := by
    obtain ⟨fu, hh⟩ := h0
    obtain ⟨s, e, _, hs⟩ := DataW.trod_string u9_arrayDoes hh
    cases e; exact hs
  obtain ⟨_, ⟨x1, rfl, k1⟩, r1⟩ := Opn.arg_struct s26_arrayDoes (opn26_arrayDoes enc W (fun _ => true) true) (by rintro _ ⟨_, rfl, _⟩; exact ⟨_, rfl⟩) (hval0 1 26 v1 (by rw [params_arrayDoes]; rfl) rfl) h1
  obtain ⟨_, ⟨x2, rfl, k2⟩, r2⟩ := Opn.arg_struct s26_arrayDoes (opn26_arrayDoes enc W (fun _ => true) true) (by rintro _ ⟨_, rfl, _⟩; exact ⟨_, rfl⟩) (hval0 2 26 v2 (by rw [params_arrayDoes]; rfl) rfl) h2
  have espec : Rows.arrayDoesSpec.fn H ([d0, d1, d2] ++ []) = { results := [.lit (.bool true)], args := [d0, d1, d2] } := rfl
  refine (Gives.calls Tryz.func6 rfl (by kernel_rfl) (gives_arrayDoes x0 k0 x1 k1 x2 k2) W #[.string x0, v1, v2] (Knows.none _ _) ⟨rfl, fun i hi => by
    match i, hi with
    | 0, _ => exact (.lit _ _)
    | 1, _ => exact r1
    | 2, _ => exact r2⟩).mono fun e W' ⟨he, hk, hg, hs⟩ => ?_
  subst he
  have hlt := DataW.TrodAll.lt hA0
  refine ⟨_, rfl, _, _, _, [], p0 ++ (p1 ++ p2), [], hW', ?_, ?_, ?_, ?_, fun h => by cases h⟩
  · rw [espec]; exact trodAll_mk1 (shut_bool bool_arrayDoes true)
  · rw [espec]
    exact trodAll_mk3 (WideElems.Trod_stays laidOut_arrayDoes read9_arrayDoes row9_arrayDoes h0 (fun x hx => by
      have hp := hlt x (by simp [hx])
      cases x with
      | cell b o => exact World.cell?_of_block (w := W) (hs b hp)
      | map b => exact hs b hp) (fun x hx => by simpa using hlt x (by simp [hx]))) (WideElems.Trod_stays laidOut_arrayDoes read26_arrayDoes row26_arrayDoes h1 (fun x hx => by
      have hp := hlt x (by simp [hx])
      cases x with
      | cell b o => exact World.cell?_of_block (w := W) (hs b hp)
      | map b => exact hs b hp) (fun x hx => by simpa using hlt x (by simp [hx]))) (WideElems.Trod_stays laidOut_arrayDoes read26_arrayDoes row26_arrayDoes h2 (fun x hx => by
      have hp := hlt x (by simp [hx])
      cases x with
      | cell b o => exact World.cell?_of_block (w := W) (hs b hp)
      | map b => exact hs b hp) (fun x hx => by simpa using hlt x (by simp [hx])))
  · rw [espec]; rfl
  · refine ⟨hk.1, hk.2.1, fun i hi => ?_⟩
    have := hk.2.2 i hi
    rw [hs i hi]
    split <;> simp_all
theorem arrayDoes_holds : Rows.ArrayDoesSaid :=
  OpenClaim.holds_of_wide 6 Tryz.f6 rfl rfl rfl rfl rfl rfl rfl ⟨rfl, rfl, rfl, rfl, rfl⟩ rfl rfl rfl rfl rfl (by kernel_rfl) Tryz.func6 (by kernel_rfl)
    (of_decide_eq_true (by kernel_rfl)) (by unfold Func.isWrapper; rw [if_neg (of_decide_eq_false (by kernel_rfl))]; exact ⟨rfl, rfl⟩)
    (fun os started H enc _ => by
      have h := lifted_arrayDoes os started H enc
      simp only [and_true] at h
      exact h)
end Go.Q
namespace Go.Proofs.YtemmhailjfdfdaaGreat
theorem arrayDoes_proved : Rows.ArrayDoesSaid := Go.Q.arrayDoes_holds
end Go.Proofs.YtemmhailjfdfdaaGreat
#print axioms Go.Proofs.YtemmhailjfdfdaaGreat.arrayDoes_proved
