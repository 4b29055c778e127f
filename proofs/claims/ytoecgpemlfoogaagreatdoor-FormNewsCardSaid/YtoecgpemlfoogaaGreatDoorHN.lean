/- For every input the law quadratlaw03.FormNews answers true, and the input reads as it did. No conditions. -/
import Derived.Test.YtoecgpemlfoogaaGreatDoorNC
import Derived.Test.YtoecgpemlfoogaaGreatDoorFEz
import Derived.Test.YtoecgpemlfoogaaGreatDoorGKZ
import Derived.Test.YtoecgpemlfoogaaGreatDoorRows
import Derived.Test.YtoecgpemlfoogaaGreatDoorTie
import Derived.Test.YtoecgpemlfoogaaGreatDoorCards
import Derived.Test.YtoecgpemlfoogaaGreatDoorZA
namespace Go.Q
open Go Go.Proofs Go.RowKit Go.ChangeShapes Go.WideShapes Go.ChangeAt
open Go.Proofs.YtoecgpemlfoogaaGreatDoor
set_option maxRecDepth 100000
set_option maxHeartbeats 4000000

theorem own_formNews : ownKnob Tryz.prog.godebug = none := by kernel_rfl
theorem laidOut_formNews : laidOutB Tryz.prog = true := by kernel_rfl
theorem params_formNews : Tryz.f5.params = #[9] := by kernel_rfl
theorem bool_formNews : Tryz.prog.underlying 4 = some .bool := by kernel_rfl
theorem read9_formNews : Tryz.prog.readableRec 9 = true := by kernel_rfl
theorem row9_formNews : 9 < Tryz.prog.types.size := by rw [show Tryz.prog.types.size = 161 by kernel_rfl]; decide
theorem ty9_formNews : Tryz.prog.underlying 9 = some .string := by kernel_rfl
abbrev lays_formNews : List (String × DataW Unit) := YtoecgpemlfoogaaGreatDoor.Rows.formNewsRow.laid
noncomputable def world_formNews (os : Os) : World := (World.holding Tryz.prog os ⟨#[], #[], []⟩).layVars Tryz.prog lays_formNews
theorem met_formNews (os : Os) (args : Array Value) : laidMetH Tryz.prog lays_formNews ((world_formNews os).forCall (fun _ _ => 0) ⟨#[], args, []⟩).memory := by
  refine laidMetH_of_parts (laidMet_layVars (w0 := World.holding Tryz.prog os ⟨#[], #[], []⟩) (lays_formNews.map (·.1)) [] ?_ ?_ ?_ ?_) (by kernel_rfl)
  · rfl
  · kernel_rfl
  · kernel_rfl
  · exact LaidIn.none

theorem gives_formNews (x0 : ByteArray) : Gives Tryz.prog 5 [.lit (.string x0)] (.lit (.bool true)) := Law3.FormNews_ok (FormNews_of Law3.Awake_eq x0)

theorem lifted_formNews (os : Os) (started : os.Started) (H : Type) (enc : TypeId × Value → H) :
    ReturnsInHanded {} Tryz.checked os 5 .any (fun w args => (Rows.formNewsSpec.pre enc Tryz.prog Tryz.f5 Rows.formNewsRow.domain false w args ∧ laidMetH Tryz.prog lays_formNews w) ∧ sizedMet enc Tryz.prog Tryz.f5 (OpenSpec.ofChange Rows.formNewsSpec) false w args)
      (Rows.formNewsSpec.post enc Tryz.prog Tryz.f5 false true false false) := by
  refine returns_of_change_open (C := Tryz.checked) (X := fun w _ => laidMetH Tryz.prog lays_formNews w) (fun _ _ _ hh h => h.of_heap hh) own_formNews started (by kernel_rfl) Tryz.func5
    (ChangeSpec.witness_at (enc := enc) (C := Tryz.checked) (os := os) (X := fun w _ => laidMetH Tryz.prog lays_formNews w) false (world_formNews os) #[.string ⟨#[]⟩] 8 (World.layVars_os _ _ _) (by kernel_rfl) (by kernel_rfl) (by kernel_rfl) (by kernel_rfl) (by kernel_rfl) (met_formNews os _)) ?_
  intro W base args ds gs before hval0 hW hopen hX
  have hW' := hW
  obtain ⟨p, q, hA0, hV, rfl, _⟩ := hW
  have hA : DataW.TrodAll enc Tryz.prog W 0 (fun _ => true) true Tryz.f5.params.toList args.toList ds p := hA0
  rw [params_formNews] at hA
  obtain ⟨v0, d0, rfl, rfl, h0⟩ := trodAll_one hA
  obtain ⟨rfl, rfl⟩ : gs = [] ∧ q = [] := by
    cases gs with
    | nil => exact ⟨rfl, hV⟩
    | cons g r => exact absurd hV (by intro h; cases h)
  obtain ⟨x0, e0, _⟩ := Go.ChangeMaps.open_string ty9_formNews (hval0 0 9 v0 (by rw [params_formNews]; rfl) rfl) h0
  have espec : Rows.formNewsSpec.fn H ([d0] ++ []) = { results := [.lit (.bool true)], args := [d0] } := rfl
  refine (Gives.calls Tryz.func5 rfl (by kernel_rfl) (gives_formNews x0) W #[v0] (know_laid hopen (err_cell hX 5 (n := "strconv.ErrSyntax") rfl rfl (by kernel_rfl) (by kernel_rfl)) (err_cell hX 4 (n := "strconv.ErrRange") rfl rfl (by kernel_rfl) (by kernel_rfl))) ⟨rfl, fun i hi => by
    match i, hi with
    | 0, _ => exact (by subst e0; exact .lit _ _)⟩).mono fun e W' ⟨he, hk, hg, hs⟩ => ?_
  subst he
  have hlt := DataW.TrodAll.lt hA0
  refine ⟨_, rfl, _, _, _, [], p, [], hW', ?_, ?_, ?_, ?_, fun h => by cases h⟩
  · rw [espec]; exact trodAll_mk1 (shut_bool bool_formNews true)
  · rw [espec]
    exact trodAll_mk1 (WideElems.Trod_stays laidOut_formNews read9_formNews row9_formNews h0 (fun x hx => by
      have hp := hlt x (by simp [hx])
      cases x with
      | cell b o => exact World.cell?_of_block (w := W) (hs b hp)
      | map b => exact hs b hp) (fun x hx => by simpa using hlt x (by simp [hx])))
  · rw [espec]; rfl
  · refine ⟨hk.1, hk.2.1, fun i hi => ?_⟩
    have := hk.2.2 i hi
    rw [hs i hi]
    split <;> simp_all

theorem formNews_holds : Rows.FormNewsSaid :=
  OpenClaim.holds_of_wide 5 Tryz.f5 rfl rfl rfl rfl rfl rfl rfl ⟨rfl, rfl, rfl, rfl, rfl⟩ rfl rfl rfl rfl rfl (by kernel_rfl) Tryz.func5 (by kernel_rfl)
    (of_decide_eq_true (by kernel_rfl)) (by unfold Func.isWrapper; rw [if_neg (of_decide_eq_false (by kernel_rfl))]; exact ⟨rfl, rfl⟩)
    (fun os started H enc _ => lifted_formNews os started H enc)

theorem formNews_card : Rows.FormNewsCardSaid :=
  Claim7.holds_tied_plain_at .later [] [.data, .data, .data, .data, .sentinel, .sentinel, .pinned] true (true, "b3b75d3e1fb4fa33286284f61d84af873dc38b71d4113483106fd6415247b205") true
    formNews_holds (fun _ h => by cases h) (by kernel_rfl) (fun _ h => by cases h) formNews_row_tie rfl ⟨rfl, rfl⟩ (by kernel_rfl) rfl
    (fun f fn hf hfn => by
      obtain rfl : f = 5 := Option.some.inj ((show Tryz.prog.funcNamed "quadrat/quadratlaw03.FormNews" = some 5 by kernel_rfl).symm.trans hf) |>.symm
      obtain rfl : fn = Tryz.f5 := (Option.some.inj (Tryz.func5.symm.trans hfn)).symm
      exact ⟨by kernel_rfl, fun j t ht => by
        rw [params_formNews] at ht
        rcases j with _ | j
        · obtain rfl : t = 9 := by simpa using ht.symm
          exact (show Tryz.prog.wantsStandIn 9 = false by kernel_rfl)
        · simp at ht⟩)
    (by kernel_rfl)
end Go.Q
namespace Go.Proofs.YtoecgpemlfoogaaGreatDoor
theorem formNews_proved : Rows.FormNewsCardSaid := Go.Q.formNews_card
end Go.Proofs.YtoecgpemlfoogaaGreatDoor
#print axioms Go.Proofs.YtoecgpemlfoogaaGreatDoor.formNews_proved
