import Derived.Test.YtognkiddigibnaaGreatDoorLQ
import Derived.Test.YtognkiddigibnaaGreatDoorLKZ
import Derived.Test.YtognkiddigibnaaGreatDoorRows
import Derived.Test.YtognkiddigibnaaGreatDoorTie
import Derived.Test.YtognkiddigibnaaGreatDoorCards
import Derived.Test.YtognkiddigibnaaGreatDoorZA
namespace Go.Q
open Go Go.Proofs Go.RowKit Go.ChangeShapes Go.WideShapes Go.ChangeAt
open Go.Proofs.YtognkiddigibnaaGreatDoor
set_option maxRecDepth 100000
set_option maxHeartbeats 4000000
theorem own_listingCounts : ownKnob Tryz.prog.godebug = none := by kernel_rfl
theorem laidOut_listingCounts : laidOutB Tryz.prog = true := by kernel_rfl
theorem params_listingCounts : Tryz.f6.params = #[9] := by kernel_rfl
theorem bool_listingCounts : Tryz.prog.underlying 4 = some .bool := by kernel_rfl
theorem read9_listingCounts : Tryz.prog.readableRec 9 = true := by kernel_rfl
theorem row9_listingCounts : 9 < Tryz.prog.types.size := by rw [show Tryz.prog.types.size = 314 by kernel_rfl]; decide
theorem ty9_listingCounts : Tryz.prog.underlying 9 = some .string := by kernel_rfl
abbrev lays_listingCounts : List (String × DataW Unit) := YtognkiddigibnaaGreatDoor.Rows.listingCountsRow.laid
noncomputable def world_listingCounts (os : Os) : World := (World.holding Tryz.prog os ⟨#[], #[], []⟩).layVars Tryz.prog lays_listingCounts
theorem met_listingCounts (os : Os) (args : Array Value) : laidMetH Tryz.prog lays_listingCounts ((world_listingCounts os).forCall (fun _ _ => 0) ⟨#[], args, []⟩).memory := by
  refine laidMetH_of_parts (laidMet_layVars (w0 := World.holding Tryz.prog os ⟨#[], #[], []⟩) (lays_listingCounts.map (·.1)) [] ?_ ?_ ?_ ?_) (by kernel_rfl)
  · rfl
  · kernel_rfl
  · kernel_rfl
  · exact LaidIn.none
theorem gives_listingCounts (x0 : ByteArray) : Gives Tryz.prog 6 [.lit (.string x0)] (.lit (.bool true)) := Law15.ListingCounts_ok (ListingCounts_of x0)
theorem lifted_listingCounts (os : Os) (started : os.Started) (H : Type) (enc : TypeId × Value → H) :
    ReturnsInHanded {} Tryz.checked os 6 .any (fun w args => (Rows.listingCountsSpec.pre enc Tryz.prog Tryz.f6 Rows.listingCountsRow.domain false w args ∧ laidMetH Tryz.prog lays_listingCounts w) ∧ sizedMet enc Tryz.prog Tryz.f6 (OpenSpec.ofChange Rows.listingCountsSpec) false w args)
      (Rows.listingCountsSpec.post enc Tryz.prog Tryz.f6 false true false false) := by
  refine returns_of_change_open (C := Tryz.checked) (X := fun w _ => laidMetH Tryz.prog lays_listingCounts w) (fun _ _ _ hh h => h.of_heap hh) own_listingCounts started (by kernel_rfl) Tryz.func6
    (ChangeSpec.witness_at (enc := enc) (C := Tryz.checked) (os := os) (X := fun w _ => laidMetH Tryz.prog lays_listingCounts w) false (world_listingCounts os) #[.string ⟨#[]⟩] 8 (World.layVars_os _ _ _) (by kernel_rfl) (by kernel_rfl) (by kernel_rfl) (by kernel_rfl) (by kernel_rfl) (met_listingCounts os _)) ?_
  intro W base args ds gs before hval0 hW hopen hX
  have hW' := hW
  obtain ⟨p, q, hA0, hV, rfl, _⟩ := hW
  have hA : DataW.TrodAll enc Tryz.prog W 0 (fun _ => true) true Tryz.f6.params.toList args.toList ds p := hA0
  rw [params_listingCounts] at hA
  obtain ⟨v0, d0, rfl, rfl, h0⟩ := trodAll_one hA
  obtain ⟨rfl, rfl⟩ : gs = [] ∧ q = [] := by
    cases gs with
    | nil => exact ⟨rfl, hV⟩
    | cons g r => exact absurd hV (by intro h; cases h)
  obtain ⟨x0, e0, _⟩ := Go.ChangeMaps.open_string ty9_listingCounts (hval0 0 9 v0 (by rw [params_listingCounts]; rfl) rfl) h0
  have espec : Rows.listingCountsSpec.fn H ([d0] ++ []) = { results := [.lit (.bool true)], args := [d0] } := rfl
  refine (Gives.calls Tryz.func6 rfl (by kernel_rfl) (gives_listingCounts x0) W #[v0] (know_laid hopen (err_cell hX 5 (n := "strconv.ErrSyntax") rfl rfl (by kernel_rfl) (by kernel_rfl)) (err_cell hX 4 (n := "strconv.ErrRange") rfl rfl (by kernel_rfl) (by kernel_rfl))) ⟨rfl, fun i hi => by
    match i, hi with
    | 0, _ => exact (by subst e0; exact .lit _ _)⟩).mono fun e W' ⟨he, hk, hg, hs⟩ => ?_
  subst he
  have hlt := DataW.TrodAll.lt hA0
  refine ⟨_, rfl, _, _, _, [], p, [], hW', ?_, ?_, ?_, ?_, fun h => by cases h⟩
  · rw [espec]; exact trodAll_mk1 (shut_bool bool_listingCounts true)
  · rw [espec]
    exact trodAll_mk1 (WideElems.Trod_stays laidOut_listingCounts read9_listingCounts row9_listingCounts h0 (fun x hx => by
      have hp := hlt x (by simp [hx])
      cases x with
      | cell b o => exact World.cell?_of_block (w := W) (hs b hp)
      | map b => exact hs b hp) (fun x hx => by simpa using hlt x (by simp [hx])))
  · rw [espec]; rfl
  · refine ⟨hk.1, hk.2.1, fun i hi => ?_⟩
    have := hk.2.2 i hi
    rw [hs i hi]
    split <;> simp_all
theorem listingCounts_holds : Rows.ListingCountsSaid :=
  OpenClaim.holds_of_wide 6 Tryz.f6 rfl rfl rfl rfl rfl rfl rfl ⟨rfl, rfl, rfl, rfl, rfl⟩ rfl rfl rfl rfl rfl (by kernel_rfl) Tryz.func6 (by kernel_rfl)
    (of_decide_eq_true (by kernel_rfl)) (by unfold Func.isWrapper; rw [if_neg (of_decide_eq_false (by kernel_rfl))]; exact ⟨rfl, rfl⟩)
    (fun os started H enc _ => lifted_listingCounts os started H enc)
theorem listingCounts_card : Rows.ListingCountsCardSaid :=
  Claim7.holds_tied_plain_at .later [] [.data, .data, .data, .data, .sentinel, .sentinel, .pinned] true (true, "ba4b86a48aef375513d90f5518d4890ef424e1674046048a51a812d680fc9f86") true
    listingCounts_holds (fun _ h => by cases h) (by kernel_rfl) (fun _ h => by cases h) listingCounts_row_tie rfl ⟨rfl, rfl⟩ (by kernel_rfl) rfl
    (fun f fn hf hfn => by
      obtain rfl : f = 6 := Option.some.inj ((show Tryz.prog.funcNamed "quadrat/quadratlaw15.ListingCounts" = some 6 by kernel_rfl).symm.trans hf) |>.symm
      obtain rfl : fn = Tryz.f6 := (Option.some.inj (Tryz.func6.symm.trans hfn)).symm
      exact ⟨by kernel_rfl, fun j t ht => by
        rw [params_listingCounts] at ht
        rcases j with _ | j
        · obtain rfl : t = 9 := by simpa using ht.symm
          exact (show Tryz.prog.wantsStandIn 9 = false by kernel_rfl)
        · simp at ht⟩)
    (by kernel_rfl)
end Go.Q
namespace Go.Proofs.YtognkiddigibnaaGreatDoor
theorem listingCounts_proved : Rows.ListingCountsCardSaid := Go.Q.listingCounts_card
end Go.Proofs.YtognkiddigibnaaGreatDoor
#print axioms Go.Proofs.YtognkiddigibnaaGreatDoor.listingCounts_proved
