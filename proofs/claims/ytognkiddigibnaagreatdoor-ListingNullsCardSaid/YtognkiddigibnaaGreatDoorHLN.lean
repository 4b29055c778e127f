import Derived.Test.YtognkiddigibnaaGreatDoorLN1
import Derived.Test.YtognkiddigibnaaGreatDoorLKZ
import Derived.Test.YtognkiddigibnaaGreatDoorRows
import Derived.Test.YtognkiddigibnaaGreatDoorTie
import Derived.Test.YtognkiddigibnaaGreatDoorCards
import Derived.Test.YtognkiddigibnaaGreatDoorZA
namespace Go.Q
open Go Go.Proofs Go.RowKit Go.ChangeShapes Go.WideShapes Go.ChangeAt
open Go.Proofs.YtognkiddigibnaaGreatDoor
set_option maxRecDepth 100000
set_option maxHeartbeats 4000000
theorem own_listingNulls : ownKnob Tryz.prog.godebug = none := by kernel_rfl
theorem laidOut_listingNulls : laidOutB Tryz.prog = true := by kernel_rfl
theorem params_listingNulls : Tryz.f4.params = #[22] := by kernel_rfl
theorem bool_listingNulls : Tryz.prog.underlying 4 = some .bool := by kernel_rfl
theorem read22_listingNulls : Tryz.prog.readableRec 22 = true := by kernel_rfl
theorem row22_listingNulls : 22 < Tryz.prog.types.size := by rw [show Tryz.prog.types.size = 314 by kernel_rfl]; decide
theorem ty22_listingNulls : Tryz.prog.underlying 22 = some (.slice 31) := by kernel_rfl
theorem c31_3_listingNulls : Tryz.prog.cellsOf 3 = 1 := by kernel_rfl
theorem u31_3_listingNulls : Tryz.prog.underlying 3 = some (.int .i64) := by kernel_rfl
theorem flat31_listingNulls : FlatT Tryz.prog 31 [.i .i64, .i .i64] #[{ name := "Kind", type := 3, offset := 0, embedded := false, tag := "", pkgPath := "", byteOffset := 0 }, { name := "N", type := 3, offset := 1, embedded := false, tag := "", pkgPath := "", byteOffset := 8 }] := by
  refine ⟨by kernel_rfl, by kernel_rfl, rfl, fun i f x hf hx => ?_⟩
  match i, hf, hx with
  | 0, hf, hx => cases Option.some.inj hf; cases Option.some.inj hx; exact ⟨u31_3_listingNulls, rfl, c31_3_listingNulls⟩
  | 1, hf, hx => cases Option.some.inj hf; cases Option.some.inj hx; exact ⟨u31_3_listingNulls, rfl, c31_3_listingNulls⟩
  | j + 2, hf, _ => simp at hf
theorem fits31_listingNulls {r : List Value} (h : FitsAll [.i .i64, .i .i64] r) : ∃ x : api.Value, rowAV r = api.Value.enc x := by
  match r, h.1 with
  | [v0, v1], _ =>
    obtain ⟨x0, rfl⟩ := h.2 0 (.i .i64) v0 rfl rfl
    obtain ⟨x1, rfl⟩ := h.2 1 (.i .i64) v1 rfl rfl
    exact ⟨⟨x0, x1⟩, rfl⟩
abbrev lays_listingNulls : List (String × DataW Unit) := YtognkiddigibnaaGreatDoor.Rows.listingNullsRow.laid
noncomputable def world_listingNulls (os : Os) : World := (World.holding Tryz.prog os ⟨#[], #[], []⟩).layVars Tryz.prog lays_listingNulls
theorem met_listingNulls (os : Os) (args : Array Value) : laidMetH Tryz.prog lays_listingNulls ((world_listingNulls os).forCall (fun _ _ => 0) ⟨#[], args, []⟩).memory := by
  refine laidMetH_of_parts (laidMet_layVars (w0 := World.holding Tryz.prog os ⟨#[], #[], []⟩) (lays_listingNulls.map (·.1)) [] ?_ ?_ ?_ ?_) (by kernel_rfl)
  · rfl
  · kernel_rfl
  · kernel_rfl
  · exact LaidIn.none
theorem gives_listingNulls (x0 : List api.Value) (b0 : x0.length < 9223372036854775808) : Gives Tryz.prog 4 [.vs 2 (x0.map (api.Value.enc))] (.lit (.bool true)) := Law15.ListingNulls_ok (ListingNulls_of x0 b0)
theorem lifted_listingNulls (os : Os) (started : os.Started) (H : Type) (enc : TypeId × Value → H) :
    ReturnsInHanded {} Tryz.checked os 4 .any (fun w args => (Rows.listingNullsSpec.pre enc Tryz.prog Tryz.f4 Rows.listingNullsRow.domain false w args ∧ laidMetH Tryz.prog lays_listingNulls w) ∧ sizedMet enc Tryz.prog Tryz.f4 (OpenSpec.ofChange Rows.listingNullsSpec) false w args)
      (Rows.listingNullsSpec.post enc Tryz.prog Tryz.f4 false true false false) := by
  refine returns_of_change_open (C := Tryz.checked) (X := fun w _ => laidMetH Tryz.prog lays_listingNulls w) (fun _ _ _ hh h => h.of_heap hh) own_listingNulls started (by kernel_rfl) Tryz.func4
    (ChangeSpec.witness_at (enc := enc) (C := Tryz.checked) (os := os) (X := fun w _ => laidMetH Tryz.prog lays_listingNulls w) false (world_listingNulls os) #[.slice none 0 0] 8 (World.layVars_os _ _ _) (by kernel_rfl) (by kernel_rfl) (by kernel_rfl) (by kernel_rfl) (by kernel_rfl) (met_listingNulls os _)) ?_
  intro W base args ds gs before hval0 hW hopen hX
  have hW' := hW
  obtain ⟨p, q, hA0, hV, rfl, _⟩ := hW
  have hA : DataW.TrodAll enc Tryz.prog W 0 (fun _ => true) true Tryz.f4.params.toList args.toList ds p := hA0
  rw [params_listingNulls] at hA
  obtain ⟨v0, d0, rfl, rfl, h0⟩ := trodAll_one hA
  obtain ⟨rfl, rfl⟩ : gs = [] ∧ q = [] := by
    cases gs with
    | nil => exact ⟨rfl, hV⟩
    | cons g r => exact absurd hV (by intro h; cases h)
  obtain ⟨l0, lb0, hf0, r0⟩ := open_rows ty22_listingNulls flat31_listingNulls (by decide) h0 (slice_cells ty22_listingNulls (hval0 0 22 v0 (by rw [params_listingNulls]; rfl) rfl))
  obtain ⟨x0, e0⟩ := rows_of (fun r hr => fits31_listingNulls (hf0 r hr))
  have b0 : x0.length < 9223372036854775808 := by
    have := congrArg List.length e0
    rw [List.length_map, List.length_map] at this
    omega
  rw [e0] at r0
  have espec : Rows.listingNullsSpec.fn H ([d0] ++ []) = { results := [.lit (.bool true)], args := [d0] } := rfl
  refine (Gives.calls Tryz.func4 rfl (by kernel_rfl) (gives_listingNulls x0 b0) W #[v0] (know_laid hopen (err_cell hX 5 (n := "strconv.ErrSyntax") rfl rfl (by kernel_rfl) (by kernel_rfl)) (err_cell hX 4 (n := "strconv.ErrRange") rfl rfl (by kernel_rfl) (by kernel_rfl))) ⟨rfl, fun i hi => by
    match i, hi with
    | 0, _ => exact r0⟩).mono fun e W' ⟨he, hk, hg, hs⟩ => ?_
  subst he
  have hlt := DataW.TrodAll.lt hA0
  refine ⟨_, rfl, _, _, _, [], p, [], hW', ?_, ?_, ?_, ?_, fun h => by cases h⟩
  · rw [espec]; exact trodAll_mk1 (shut_bool bool_listingNulls true)
  · rw [espec]
    exact trodAll_mk1 (WideElems.Trod_stays laidOut_listingNulls read22_listingNulls row22_listingNulls h0 (fun x hx => by
      have hp := hlt x (by simp [hx])
      cases x with
      | cell b o => exact World.cell?_of_block (w := W) (hs b hp)
      | map b => exact hs b hp) (fun x hx => by simpa using hlt x (by simp [hx])))
  · rw [espec]; rfl
  · refine ⟨hk.1, hk.2.1, fun i hi => ?_⟩
    have := hk.2.2 i hi
    rw [hs i hi]
    split <;> simp_all
theorem listingNulls_holds : Rows.ListingNullsSaid :=
  OpenClaim.holds_of_wide 4 Tryz.f4 rfl rfl rfl rfl rfl rfl rfl ⟨rfl, rfl, rfl, rfl, rfl⟩ rfl rfl rfl rfl rfl (by kernel_rfl) Tryz.func4 (by kernel_rfl)
    (of_decide_eq_true (by kernel_rfl)) (by unfold Func.isWrapper; rw [if_neg (of_decide_eq_false (by kernel_rfl))]; exact ⟨rfl, rfl⟩)
    (fun os started H enc _ => lifted_listingNulls os started H enc)
theorem listingNulls_card : Rows.ListingNullsCardSaid :=
  Claim7.holds_tied_plain_at .later [] [.data, .data, .data, .data, .sentinel, .sentinel, .pinned] true (true, "ba4b86a48aef375513d90f5518d4890ef424e1674046048a51a812d680fc9f86") true
    listingNulls_holds (fun _ h => by cases h) (by kernel_rfl) (fun _ h => by cases h) listingNulls_row_tie rfl ⟨rfl, rfl⟩ (by kernel_rfl) rfl
    (fun f fn hf hfn => by
      obtain rfl : f = 4 := Option.some.inj ((show Tryz.prog.funcNamed "quadrat/quadratlaw15.ListingNulls" = some 4 by kernel_rfl).symm.trans hf) |>.symm
      obtain rfl : fn = Tryz.f4 := (Option.some.inj (Tryz.func4.symm.trans hfn)).symm
      exact ⟨by kernel_rfl, fun j t ht => by
        rw [params_listingNulls] at ht
        rcases j with _ | j
        · obtain rfl : t = 22 := by simpa using ht.symm
          exact (show Tryz.prog.wantsStandIn 22 = false by kernel_rfl)
        · simp at ht⟩)
    (by kernel_rfl)
end Go.Q
namespace Go.Proofs.YtognkiddigibnaaGreatDoor
theorem listingNulls_proved : Rows.ListingNullsCardSaid := Go.Q.listingNulls_card
end Go.Proofs.YtognkiddigibnaaGreatDoor
#print axioms Go.Proofs.YtognkiddigibnaaGreatDoor.listingNulls_proved
