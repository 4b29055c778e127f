/- For every input the law quadratlaw07.ArrayNames answers true, and the input reads as it did. No conditions. -/
import Derived.Test.YtemmhailjfdfdaaGreatAP2
import Derived.Test.YtemmhailjfdfdaaGreatRows
import Derived.Test.YtemmhailjfdfdaaGreatZA
namespace Go.Q
open Go Go.Proofs Go.RowKit Go.ChangeShapes Go.WideShapes Go.ChangeAt
open Go.Proofs.YtemmhailjfdfdaaGreat
set_option maxRecDepth 100000
set_option maxHeartbeats 4000000

theorem own_arrayNames : ownKnob Tryz.prog.godebug = none := by kernel_rfl
theorem laidOut_arrayNames : laidOutB Tryz.prog = true := by kernel_rfl
theorem params_arrayNames : Tryz.f4.params = #[9] := by kernel_rfl
theorem bool_arrayNames : Tryz.prog.underlying 4 = some .bool := by kernel_rfl
theorem read9_arrayNames : Tryz.prog.readableRec 9 = true := by kernel_rfl
theorem row9_arrayNames : 9 < Tryz.prog.types.size := by rw [show Tryz.prog.types.size = 184 by kernel_rfl]; decide
theorem ty9_arrayNames : Tryz.prog.underlying 9 = some .string := by kernel_rfl
abbrev lays_arrayNames : List (String × DataW Unit) := YtemmhailjfdfdaaGreat.Rows.arrayNamesRow.laid
noncomputable def world_arrayNames (os : Os) : World := (World.holding Tryz.prog os ⟨#[], #[], []⟩).layVars Tryz.prog lays_arrayNames
theorem gives_arrayNames (x0 : ByteArray) : Gives Tryz.prog 4 [.lit (.string x0)] (.lit (.bool true)) := Law7.ArrayNames_ok (ArrayNames_eq x0)

theorem lifted_arrayNames (os : Os) (started : os.Started) (H : Type) (enc : TypeId × Value → H) :
    ReturnsInHanded {} Tryz.checked os 4 .any (fun w args => (Rows.arrayNamesSpec.pre enc Tryz.prog Tryz.f4 Rows.arrayNamesRow.domain false w args ∧ True) ∧ sizedMet enc Tryz.prog Tryz.f4 (OpenSpec.ofChange Rows.arrayNamesSpec) false w args)
      (Rows.arrayNamesSpec.post enc Tryz.prog Tryz.f4 false true false false) := by
  refine returns_of_change_open (C := Tryz.checked) (X := fun w _ => True) (fun _ _ _ _ h => h) own_arrayNames started (by kernel_rfl) Tryz.func4
    (ChangeSpec.witness_at (enc := enc) (C := Tryz.checked) (os := os) (X := fun w _ => True) false (world_arrayNames os) #[.string ⟨#[]⟩] 8 (World.layVars_os _ _ _) (by kernel_rfl) (by kernel_rfl) (by kernel_rfl) (by kernel_rfl) (by kernel_rfl) trivial) ?_
  intro W base args ds gs before hval0 hW hopen hX
  have hW' := hW
  obtain ⟨p, q, hA0, hV, rfl, _⟩ := hW
  have hA : DataW.TrodAll enc Tryz.prog W 0 (fun _ => true) true Tryz.f4.params.toList args.toList ds p := hA0
  rw [params_arrayNames] at hA
  obtain ⟨v0, d0, rfl, rfl, h0⟩ := trodAll_one hA
  obtain ⟨rfl, rfl⟩ : gs = [] ∧ q = [] := by
    cases gs with
    | nil => exact ⟨rfl, hV⟩
    | cons g r => exact absurd hV (by intro h; cases h)
  obtain ⟨x0, e0, _⟩ := Go.ChangeMaps.open_string ty9_arrayNames (hval0 0 9 v0 (by rw [params_arrayNames]; rfl) rfl) h0
  have espec : Rows.arrayNamesSpec.fn H ([d0] ++ []) = { results := [.lit (.bool true)], args := [d0] } := rfl
  refine (Gives.calls Tryz.func4 rfl (by kernel_rfl) (gives_arrayNames x0) W #[v0] (Knows.none _ _) ⟨rfl, fun i hi => by
    match i, hi with
    | 0, _ => exact (by subst e0; exact .lit _ _)⟩).mono fun e W' ⟨he, hk, hg, hs⟩ => ?_
  subst he
  have hlt := DataW.TrodAll.lt hA0
  refine ⟨_, rfl, _, _, _, [], p, [], hW', ?_, ?_, ?_, ?_, fun h => by cases h⟩
  · rw [espec]; exact trodAll_mk1 (shut_bool bool_arrayNames true)
  · rw [espec]
    exact trodAll_mk1 (WideElems.Trod_stays laidOut_arrayNames read9_arrayNames row9_arrayNames h0 (fun x hx => by
      have hp := hlt x (by simp [hx])
      cases x with
      | cell b o => exact World.cell?_of_block (w := W) (hs b hp)
      | map b => exact hs b hp) (fun x hx => by simpa using hlt x (by simp [hx])))
  · rw [espec]; rfl
  · refine ⟨hk.1, hk.2.1, fun i hi => ?_⟩
    have := hk.2.2 i hi
    rw [hs i hi]
    split <;> simp_all

theorem arrayNames_holds : Rows.ArrayNamesSaid :=
  OpenClaim.holds_of_wide 4 Tryz.f4 rfl rfl rfl rfl rfl rfl rfl ⟨rfl, rfl, rfl, rfl, rfl⟩ rfl rfl rfl rfl rfl (by kernel_rfl) Tryz.func4 (by kernel_rfl)
    (of_decide_eq_true (by kernel_rfl)) (by unfold Func.isWrapper; rw [if_neg (of_decide_eq_false (by kernel_rfl))]; exact ⟨rfl, rfl⟩)
    (fun os started H enc _ => by
      have h := lifted_arrayNames os started H enc
      simp only [and_true] at h
      exact h)

end Go.Q
namespace Go.Proofs.YtemmhailjfdfdaaGreat
theorem arrayNames_proved : Rows.ArrayNamesSaid := Go.Q.arrayNames_holds
end Go.Proofs.YtemmhailjfdfdaaGreat
#print axioms Go.Proofs.YtemmhailjfdfdaaGreat.arrayNames_proved
