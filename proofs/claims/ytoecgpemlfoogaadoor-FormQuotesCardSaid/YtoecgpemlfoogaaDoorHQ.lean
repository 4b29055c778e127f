/- For every input the law quadratlaw03.FormQuotes answers true, and the input reads as it did. No conditions. -/
import Derived.Test.YtoecgpemlfoogaaDoorF1
import Derived.Test.YtoecgpemlfoogaaDoorFKZ
import Derived.Test.YtoecgpemlfoogaaDoorRows
import Derived.Test.YtoecgpemlfoogaaDoorTie
import Derived.Test.YtoecgpemlfoogaaDoorCards
import Derived.Test.YtoecgpemlfoogaaDoorZA
namespace Go.Q
open Go Go.Proofs Go.RowKit Go.ChangeShapes Go.WideShapes Go.ChangeAt
open Go.Proofs.YtoecgpemlfoogaaDoor
set_option maxRecDepth 100000
set_option maxHeartbeats 4000000

theorem own_formQuotes : ownKnob Tryd.prog.godebug = none := by kernel_rfl
theorem laidOut_formQuotes : laidOutB Tryd.prog = true := by kernel_rfl
theorem params_formQuotes : Tryd.f4.params = #[9, 3] := by kernel_rfl
theorem bool_formQuotes : Tryd.prog.underlying 4 = some .bool := by kernel_rfl
theorem read3_formQuotes : Tryd.prog.readableRec 3 = true := by kernel_rfl
theorem row3_formQuotes : 3 < Tryd.prog.types.size := by rw [show Tryd.prog.types.size = 141 by kernel_rfl]; decide
theorem read9_formQuotes : Tryd.prog.readableRec 9 = true := by kernel_rfl
theorem row9_formQuotes : 9 < Tryd.prog.types.size := by rw [show Tryd.prog.types.size = 141 by kernel_rfl]; decide
theorem ty9_formQuotes : Tryd.prog.underlying 9 = some .string := by kernel_rfl
theorem ty3_formQuotes : Tryd.prog.underlying 3 = some (.int .i64) := by kernel_rfl
abbrev lays_formQuotes : List (String × DataW Unit) := YtoecgpemlfoogaaDoor.Rows.formQuotesRow.laid
noncomputable def world_formQuotes (os : Os) : World := (World.holding Tryd.prog os ⟨#[], #[], []⟩).layVars Tryd.prog lays_formQuotes
theorem met_formQuotes (os : Os) (args : Array Value) : laidMetH Tryd.prog lays_formQuotes ((world_formQuotes os).forCall (fun _ _ => 0) ⟨#[], args, []⟩).memory := by
  refine laidMetH_of_parts (laidMet_layVars (w0 := World.holding Tryd.prog os ⟨#[], #[], []⟩) (lays_formQuotes.map (·.1)) [] ?_ ?_ ?_ ?_) (by kernel_rfl)
  · rfl
  · kernel_rfl
  · kernel_rfl
  · exact LaidIn.none

theorem gives_formQuotes (x0 : ByteArray) (x1 : Int) : Gives Tryd.prog 4 [.lit (.string x0), .lit (.int .i64 x1)] (.lit (.bool true)) := Law3.FormQuotes_ok (FormQuotes_eq x0 x1)

theorem lifted_formQuotes (os : Os) (started : os.Started) (H : Type) (enc : TypeId × Value → H) :
    ReturnsInHanded {} Tryd.checked os 4 .any (fun w args => (Rows.formQuotesSpec.pre enc Tryd.prog Tryd.f4 Rows.formQuotesRow.domain false w args ∧ laidMetH Tryd.prog lays_formQuotes w) ∧ sizedMet enc Tryd.prog Tryd.f4 (OpenSpec.ofChange Rows.formQuotesSpec) false w args)
      (Rows.formQuotesSpec.post enc Tryd.prog Tryd.f4 false true false false) := by
  refine returns_of_change_open (C := Tryd.checked) (X := fun w _ => laidMetH Tryd.prog lays_formQuotes w) (fun _ _ _ hh h => h.of_heap hh) own_formQuotes started (by kernel_rfl) Tryd.func4
    (ChangeSpec.witness_at (enc := enc) (C := Tryd.checked) (os := os) (X := fun w _ => laidMetH Tryd.prog lays_formQuotes w) false (world_formQuotes os) #[.string ⟨#[]⟩, .int .i64 0] 8 (World.layVars_os _ _ _) (by kernel_rfl) (by kernel_rfl) (by kernel_rfl) (by kernel_rfl) (by kernel_rfl) (met_formQuotes os _)) ?_
  intro W base args ds gs before hval0 hW hopen _
  have hW' := hW
  obtain ⟨p, q, hA0, hV, rfl, _⟩ := hW
  have hA : DataW.TrodAll enc Tryd.prog W 0 (fun _ => true) true Tryd.f4.params.toList args.toList ds p := hA0
  rw [params_formQuotes] at hA
  obtain ⟨v0, v1, d0, d1, p0, p1, rfl, rfl, rfl, h0, h1⟩ := trodAll_two hA
  obtain ⟨rfl, rfl⟩ : gs = [] ∧ q = [] := by
    cases gs with
    | nil => exact ⟨rfl, hV⟩
    | cons g r => exact absurd hV (by intro h; cases h)
  obtain ⟨x0, e0, _⟩ := Go.ChangeMaps.open_string ty9_formQuotes (hval0 0 9 v0 (by rw [params_formQuotes]; rfl) rfl) h0
  obtain ⟨x1, e1, _⟩ := open_int ty3_formQuotes (hval0 1 3 v1 (by rw [params_formQuotes]; rfl) rfl) h1
  have espec : Rows.formQuotesSpec.fn H ([d0, d1] ++ []) = { results := [.lit (.bool true)], args := [d0, d1] } := rfl
  refine (Gives.calls Tryd.func4 rfl (by kernel_rfl) (gives_formQuotes x0 x1) W #[v0, v1] (know_open hopen) ⟨rfl, fun i hi => by
    match i, hi with
    | 0, _ => exact (by subst e0; exact .lit _ _)
    | 1, _ => exact (by subst e1; exact .lit _ _)⟩).mono fun e W' ⟨he, hk, hg, hs⟩ => ?_
  subst he
  have hlt := DataW.TrodAll.lt hA0
  refine ⟨_, rfl, _, _, _, [], p0 ++ p1, [], hW', ?_, ?_, ?_, ?_, fun h => by cases h⟩
  · rw [espec]; exact trodAll_mk1 (shut_bool bool_formQuotes true)
  · rw [espec]
    exact trodAll_mk2 (WideElems.Trod_stays laidOut_formQuotes read9_formQuotes row9_formQuotes h0 (fun x hx => by
      have hp := hlt x (by simp [hx])
      cases x with
      | cell b o => exact World.cell?_of_block (w := W) (hs b hp)
      | map b => exact hs b hp) (fun x hx => by simpa using hlt x (by simp [hx]))) (WideElems.Trod_stays laidOut_formQuotes read3_formQuotes row3_formQuotes h1 (fun x hx => by
      have hp := hlt x (by simp [hx])
      cases x with
      | cell b o => exact World.cell?_of_block (w := W) (hs b hp)
      | map b => exact hs b hp) (fun x hx => by simpa using hlt x (by simp [hx])))
  · rw [espec]; rfl
  · refine ⟨hk.1, hk.2.1, fun i hi => ?_⟩
    have := hk.2.2 i hi
    rw [hs i hi]
    split <;> simp_all

theorem formQuotes_holds : Rows.FormQuotesSaid :=
  OpenClaim.holds_of_wide 4 Tryd.f4 rfl rfl rfl rfl rfl rfl rfl ⟨rfl, rfl, rfl, rfl, rfl⟩ rfl rfl rfl rfl rfl (by kernel_rfl) Tryd.func4 (by kernel_rfl)
    (of_decide_eq_true (by kernel_rfl)) (by unfold Func.isWrapper; rw [if_neg (of_decide_eq_false (by kernel_rfl))]; exact ⟨rfl, rfl⟩)
    (fun os started H enc _ => lifted_formQuotes os started H enc)

theorem formQuotes_card : Rows.FormQuotesCardSaid :=
  Claim7.holds_tied_plain_at .later [] [.data, .data, .data, .data, .sentinel, .sentinel, .pinned] true (true, "2c8fb08a00138ce3a767427dc0d7e6c36c1a5101edfc47fcedb152a5a0003ec4") true
    formQuotes_holds (fun _ h => by cases h) (by kernel_rfl) (fun _ h => by cases h) formQuotes_row_tie rfl ⟨rfl, rfl⟩ (by kernel_rfl) rfl
    (fun f fn hf hfn => by
      obtain rfl : f = 4 := Option.some.inj ((show Tryd.prog.funcNamed "quadrat/quadratlaw03.FormQuotes" = some 4 by kernel_rfl).symm.trans hf) |>.symm
      obtain rfl : fn = Tryd.f4 := (Option.some.inj (Tryd.func4.symm.trans hfn)).symm
      exact ⟨by kernel_rfl, fun j t ht => by
        rw [params_formQuotes] at ht
        rcases j with _ | _ | j
        · obtain rfl : t = 9 := by simpa using ht.symm
          exact (show Tryd.prog.wantsStandIn 9 = false by kernel_rfl)
        · obtain rfl : t = 3 := by simpa using ht.symm
          exact (show Tryd.prog.wantsStandIn 3 = false by kernel_rfl)
        · simp at ht⟩)
    (by kernel_rfl)
end Go.Q
namespace Go.Proofs.YtoecgpemlfoogaaDoor
theorem formQuotes_proved : Rows.FormQuotesCardSaid := Go.Q.formQuotes_card
end Go.Proofs.YtoecgpemlfoogaaDoor
#print axioms Go.Proofs.YtoecgpemlfoogaaDoor.formQuotes_proved
