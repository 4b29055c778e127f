/- For every input the law quadratlaw03.FormComments answers true, and the input reads as it did. No conditions. -/
import Derived.Test.YtoecgpemlfoogaaDoorF1
import Derived.Test.YtoecgpemlfoogaaDoorFKZ
import Derived.Test.YtoecgpemlfoogaaDoorRows
import Derived.Test.YtoecgpemlfoogaaDoorTie
import Derived.Test.YtoecgpemlfoogaaDoorCards
import Derived.Test.YtoecgpemlfoogaaDoorZA
namespace Go.Q
open Go Go.Proofs Go.RowKit Go.ChangeShapes Go.WideShapes Go.ChangeAt
open Go.Proofs.YtoecgpemlfoogaaDoor
set_option maxRecDepth 100000
set_option maxHeartbeats 4000000

theorem own_formComments : ownKnob Tryd.prog.godebug = none := by kernel_rfl
theorem laidOut_formComments : laidOutB Tryd.prog = true := by kernel_rfl
theorem params_formComments : Tryd.f3.params = #[9, 4] := by kernel_rfl
theorem bool_formComments : Tryd.prog.underlying 4 = some .bool := by kernel_rfl
theorem read4_formComments : Tryd.prog.readableRec 4 = true := by kernel_rfl
theorem row4_formComments : 4 < Tryd.prog.types.size := by rw [show Tryd.prog.types.size = 141 by kernel_rfl]; decide
theorem read9_formComments : Tryd.prog.readableRec 9 = true := by kernel_rfl
theorem row9_formComments : 9 < Tryd.prog.types.size := by rw [show Tryd.prog.types.size = 141 by kernel_rfl]; decide
theorem ty9_formComments : Tryd.prog.underlying 9 = some .string := by kernel_rfl
theorem ty4_formComments : Tryd.prog.underlying 4 = some .bool := by kernel_rfl
abbrev lays_formComments : List (String × DataW Unit) := YtoecgpemlfoogaaDoor.Rows.formCommentsRow.laid
noncomputable def world_formComments (os : Os) : World := (World.holding Tryd.prog os ⟨#[], #[], []⟩).layVars Tryd.prog lays_formComments
theorem met_formComments (os : Os) (args : Array Value) : laidMetH Tryd.prog lays_formComments ((world_formComments os).forCall (fun _ _ => 0) ⟨#[], args, []⟩).memory := by
  refine laidMetH_of_parts (laidMet_layVars (w0 := World.holding Tryd.prog os ⟨#[], #[], []⟩) (lays_formComments.map (·.1)) [] ?_ ?_ ?_ ?_) (by kernel_rfl)
  · rfl
  · kernel_rfl
  · kernel_rfl
  · exact LaidIn.none

theorem gives_formComments (x0 : ByteArray) (x1 : Bool) : Gives Tryd.prog 3 [.lit (.string x0), .lit (.bool x1)] (.lit (.bool true)) := Law3.FormComments_ok (FormComments_eq x0 x1)

theorem lifted_formComments (os : Os) (started : os.Started) (H : Type) (enc : TypeId × Value → H) :
    ReturnsInHanded {} Tryd.checked os 3 .any (fun w args => (Rows.formCommentsSpec.pre enc Tryd.prog Tryd.f3 Rows.formCommentsRow.domain false w args ∧ laidMetH Tryd.prog lays_formComments w) ∧ sizedMet enc Tryd.prog Tryd.f3 (OpenSpec.ofChange Rows.formCommentsSpec) false w args)
      (Rows.formCommentsSpec.post enc Tryd.prog Tryd.f3 false true false false) := by
  refine returns_of_change_open (C := Tryd.checked) (X := fun w _ => laidMetH Tryd.prog lays_formComments w) (fun _ _ _ hh h => h.of_heap hh) own_formComments started (by kernel_rfl) Tryd.func3
    (ChangeSpec.witness_at (enc := enc) (C := Tryd.checked) (os := os) (X := fun w _ => laidMetH Tryd.prog lays_formComments w) false (world_formComments os) #[.string ⟨#[]⟩, .bool false] 8 (World.layVars_os _ _ _) (by kernel_rfl) (by kernel_rfl) (by kernel_rfl) (by kernel_rfl) (by kernel_rfl) (met_formComments os _)) ?_
  intro W base args ds gs before hval0 hW hopen _
  have hW' := hW
  obtain ⟨p, q, hA0, hV, rfl, _⟩ := hW
  have hA : DataW.TrodAll enc Tryd.prog W 0 (fun _ => true) true Tryd.f3.params.toList args.toList ds p := hA0
  rw [params_formComments] at hA
  obtain ⟨v0, v1, d0, d1, p0, p1, rfl, rfl, rfl, h0, h1⟩ := trodAll_two hA
  obtain ⟨rfl, rfl⟩ : gs = [] ∧ q = [] := by
    cases gs with
    | nil => exact ⟨rfl, hV⟩
    | cons g r => exact absurd hV (by intro h; cases h)
  obtain ⟨x0, e0, _⟩ := Go.ChangeMaps.open_string ty9_formComments (hval0 0 9 v0 (by rw [params_formComments]; rfl) rfl) h0
  obtain ⟨x1, e1, _⟩ := open_bool ty4_formComments (hval0 1 4 v1 (by rw [params_formComments]; rfl) rfl) h1
  have espec : Rows.formCommentsSpec.fn H ([d0, d1] ++ []) = { results := [.lit (.bool true)], args := [d0, d1] } := rfl
  refine (Gives.calls Tryd.func3 rfl (by kernel_rfl) (gives_formComments x0 x1) W #[v0, v1] (know_open hopen) ⟨rfl, fun i hi => by
    match i, hi with
    | 0, _ => exact (by subst e0; exact .lit _ _)
    | 1, _ => exact (by subst e1; exact .lit _ _)⟩).mono fun e W' ⟨he, hk, hg, hs⟩ => ?_
  subst he
  have hlt := DataW.TrodAll.lt hA0
  refine ⟨_, rfl, _, _, _, [], p0 ++ p1, [], hW', ?_, ?_, ?_, ?_, fun h => by cases h⟩
  · rw [espec]; exact trodAll_mk1 (shut_bool bool_formComments true)
  · rw [espec]
    exact trodAll_mk2 (WideElems.Trod_stays laidOut_formComments read9_formComments row9_formComments h0 (fun x hx => by
      have hp := hlt x (by simp [hx])
      cases x with
      | cell b o => exact World.cell?_of_block (w := W) (hs b hp)
      | map b => exact hs b hp) (fun x hx => by simpa using hlt x (by simp [hx]))) (WideElems.Trod_stays laidOut_formComments read4_formComments row4_formComments h1 (fun x hx => by
      have hp := hlt x (by simp [hx])
      cases x with
      | cell b o => exact World.cell?_of_block (w := W) (hs b hp)
      | map b => exact hs b hp) (fun x hx => by simpa using hlt x (by simp [hx])))
  · rw [espec]; rfl
  · refine ⟨hk.1, hk.2.1, fun i hi => ?_⟩
    have := hk.2.2 i hi
    rw [hs i hi]
    split <;> simp_all

theorem formComments_holds : Rows.FormCommentsSaid :=
  OpenClaim.holds_of_wide 3 Tryd.f3 rfl rfl rfl rfl rfl rfl rfl ⟨rfl, rfl, rfl, rfl, rfl⟩ rfl rfl rfl rfl rfl (by kernel_rfl) Tryd.func3 (by kernel_rfl)
    (of_decide_eq_true (by kernel_rfl)) (by unfold Func.isWrapper; rw [if_neg (of_decide_eq_false (by kernel_rfl))]; exact ⟨rfl, rfl⟩)
    (fun os started H enc _ => lifted_formComments os started H enc)

theorem formComments_card : Rows.FormCommentsCardSaid :=
  Claim7.holds_tied_plain_at .later [] [.data, .data, .data, .data, .sentinel, .sentinel, .pinned] true (true, "2c8fb08a00138ce3a767427dc0d7e6c36c1a5101edfc47fcedb152a5a0003ec4") true
    formComments_holds (fun _ h => by cases h) (by kernel_rfl) (fun _ h => by cases h) formComments_row_tie rfl ⟨rfl, rfl⟩ (by kernel_rfl) rfl
    (fun f fn hf hfn => by
      obtain rfl : f = 3 := Option.some.inj ((show Tryd.prog.funcNamed "quadrat/quadratlaw03.FormComments" = some 3 by kernel_rfl).symm.trans hf) |>.symm
      obtain rfl : fn = Tryd.f3 := (Option.some.inj (Tryd.func3.symm.trans hfn)).symm
      exact ⟨by kernel_rfl, fun j t ht => by
        rw [params_formComments] at ht
        rcases j with _ | _ | j
        · obtain rfl : t = 9 := by simpa using ht.symm
          exact (show Tryd.prog.wantsStandIn 9 = false by kernel_rfl)
        · obtain rfl : t = 4 := by simpa using ht.symm
          exact (show Tryd.prog.wantsStandIn 4 = false by kernel_rfl)
        · simp at ht⟩)
    (by kernel_rfl)
end Go.Q
namespace Go.Proofs.YtoecgpemlfoogaaDoor
theorem formComments_proved : Rows.FormCommentsCardSaid := Go.Q.formComments_card
end Go.Proofs.YtoecgpemlfoogaaDoor
#print axioms Go.Proofs.YtoecgpemlfoogaaDoor.formComments_proved
