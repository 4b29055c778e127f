import Derived.Test.YtoecgpemlfoogaaGreatDoorFW6
import Derived.Test.YtoecgpemlfoogaaGreatDoorFEz
import Derived.Test.YtoecgpemlfoogaaGreatDoorGKZ
import Derived.Test.YtoecgpemlfoogaaGreatDoorRows
import Derived.Test.YtoecgpemlfoogaaGreatDoorTie
import Derived.Test.YtoecgpemlfoogaaGreatDoorCards
import Derived.Test.YtoecgpemlfoogaaGreatDoorZA
namespace Go.Q
open Go Go.Proofs Go.RowKit Go.ChangeShapes Go.WideShapes Go.ChangeAt
open Go.Proofs.YtoecgpemlfoogaaGreatDoor
set_option maxRecDepth 100000
set_option maxHeartbeats 4000000
theorem own_formBack : ownKnob Tryz.prog.godebug = none := by kernel_rfl
theorem laidOut_formBack : laidOutB Tryz.prog = true := by kernel_rfl
theorem params_formBack : Tryz.f7.params = #[23] := by kernel_rfl
theorem bool_formBack : Tryz.prog.underlying 4 = some .bool := by kernel_rfl
theorem read23_formBack : Tryz.prog.readableRec 23 = true := by kernel_rfl
theorem row23_formBack : 23 < Tryz.prog.types.size := by rw [show Tryz.prog.types.size = 161 by kernel_rfl]; decide
theorem ty23_formBack : Tryz.prog.underlying 23 = some (.slice 33) := by kernel_rfl
theorem c33_3_formBack : Tryz.prog.cellsOf 3 = 1 := by kernel_rfl
theorem c33_9_formBack : Tryz.prog.cellsOf 9 = 1 := by kernel_rfl
theorem u33_3_formBack : Tryz.prog.underlying 3 = some (.int .i64) := by kernel_rfl
theorem u33_9_formBack : Tryz.prog.underlying 9 = some (.string) := by kernel_rfl
theorem flat33_formBack : FlatT Tryz.prog 33 [.i .i64, .s, .i .i64] #[{ name := "Label", type := 3, offset := 0, embedded := false, tag := "", pkgPath := "", byteOffset := 0 }, { name := "Text", type := 9, offset := 1, embedded := false, tag := "", pkgPath := "", byteOffset := 8 }, { name := "At", type := 3, offset := 2, embedded := false, tag := "", pkgPath := "", byteOffset := 24 }] := by
  refine ⟨by kernel_rfl, by kernel_rfl, rfl, fun i f x hf hx => ?_⟩
  match i, hf, hx with
  | 0, hf, hx => cases Option.some.inj hf; cases Option.some.inj hx; exact ⟨u33_3_formBack, rfl, c33_3_formBack⟩
  | 1, hf, hx => cases Option.some.inj hf; cases Option.some.inj hx; exact ⟨u33_9_formBack, rfl, c33_9_formBack⟩
  | 2, hf, hx => cases Option.some.inj hf; cases Option.some.inj hx; exact ⟨u33_3_formBack, rfl, c33_3_formBack⟩
  | j + 3, hf, _ => simp at hf
theorem fits33_formBack {r : List Value} (h : FitsAll [.i .i64, .s, .i .i64] r) : ∃ x : api.Line, rowAV r = api.Line.enc x := by
  match r, h.1 with
  | [v0, v1, v2], _ =>
    obtain ⟨x0, rfl⟩ := h.2 0 (.i .i64) v0 rfl rfl
    obtain ⟨x1, rfl⟩ := h.2 1 (.s) v1 rfl rfl
    obtain ⟨x2, rfl⟩ := h.2 2 (.i .i64) v2 rfl rfl
    exact ⟨⟨x0, x1, x2⟩, rfl⟩
abbrev lays_formBack : List (String × DataW Unit) := YtoecgpemlfoogaaGreatDoor.Rows.formBackRow.laid
noncomputable def world_formBack (os : Os) : World := (World.holding Tryz.prog os ⟨#[], #[], []⟩).layVars Tryz.prog lays_formBack
theorem met_formBack (os : Os) (args : Array Value) : laidMetH Tryz.prog lays_formBack ((world_formBack os).forCall (fun _ _ => 0) ⟨#[], args, []⟩).memory := by
  refine laidMetH_of_parts (laidMet_layVars (w0 := World.holding Tryz.prog os ⟨#[], #[], []⟩) (lays_formBack.map (·.1)) [] ?_ ?_ ?_ ?_) (by kernel_rfl)
  · rfl
  · kernel_rfl
  · kernel_rfl
  · exact LaidIn.none
theorem gives_formBack (x0 : List api.Line) (b0 : x0.length < 9223372036854775808) : Gives Tryz.prog 7 [.vs 3 (x0.map (api.Line.enc))] (.lit (.bool true)) := Law3.FormBack_ok (FormBack_of Law3.Awake_eq x0 b0)
theorem lifted_formBack (os : Os) (started : os.Started) (H : Type) (enc : TypeId × Value → H) :
    ReturnsInHanded {} Tryz.checked os 7 .any (fun w args => (Rows.formBackSpec.pre enc Tryz.prog Tryz.f7 Rows.formBackRow.domain false w args ∧ laidMetH Tryz.prog lays_formBack w) ∧ sizedMet enc Tryz.prog Tryz.f7 (OpenSpec.ofChange Rows.formBackSpec) false w args)
      (Rows.formBackSpec.post enc Tryz.prog Tryz.f7 false true false false) := by
  refine returns_of_change_open (C := Tryz.checked) (X := fun w _ => laidMetH Tryz.prog lays_formBack w) (fun _ _ _ hh h => h.of_heap hh) own_formBack started (by kernel_rfl) Tryz.func7
    (ChangeSpec.witness_at (enc := enc) (C := Tryz.checked) (os := os) (X := fun w _ => laidMetH Tryz.prog lays_formBack w) false (world_formBack os) #[.slice none 0 0] 8 (World.layVars_os _ _ _) (by kernel_rfl) (by kernel_rfl) (by kernel_rfl) (by kernel_rfl) (by kernel_rfl) (met_formBack os _)) ?_
  intro W base args ds gs before hval0 hW hopen hX
  have hW' := hW
  obtain ⟨p, q, hA0, hV, rfl, _⟩ := hW
  have hA : DataW.TrodAll enc Tryz.prog W 0 (fun _ => true) true Tryz.f7.params.toList args.toList ds p := hA0
  rw [params_formBack] at hA
  obtain ⟨v0, d0, rfl, rfl, h0⟩ := trodAll_one hA
  obtain ⟨rfl, rfl⟩ : gs = [] ∧ q = [] := by
    cases gs with
    | nil => exact ⟨rfl, hV⟩
    | cons g r => exact absurd hV (by intro h; cases h)
  obtain ⟨l0, lb0, hf0, r0⟩ := open_rows ty23_formBack flat33_formBack (by decide) h0 (slice_cells ty23_formBack (hval0 0 23 v0 (by rw [params_formBack]; rfl) rfl))
  obtain ⟨x0, e0⟩ := rows_of (fun r hr => fits33_formBack (hf0 r hr))
  have b0 : x0.length < 9223372036854775808 := by
    have := congrArg List.length e0
    rw [List.length_map, List.length_map] at this
    omega
  rw [e0] at r0
  have espec : Rows.formBackSpec.fn H ([d0] ++ []) = { results := [.lit (.bool true)], args := [d0] } := rfl
  refine (Gives.calls Tryz.func7 rfl (by kernel_rfl) (gives_formBack x0 b0) W #[v0] (know_laid hopen (err_cell hX 5 (n := "strconv.ErrSyntax") rfl rfl (by kernel_rfl) (by kernel_rfl)) (err_cell hX 4 (n := "strconv.ErrRange") rfl rfl (by kernel_rfl) (by kernel_rfl)) (tab_cell hX 2 (n := "internal/strconv.uint64pow10") rfl (by kernel_rfl))) ⟨rfl, fun i hi => by
    match i, hi with
    | 0, _ => exact r0⟩).mono fun e W' ⟨he, hk, hg, hs⟩ => ?_
  subst he
  have hlt := DataW.TrodAll.lt hA0
  refine ⟨_, rfl, _, _, _, [], p, [], hW', ?_, ?_, ?_, ?_, fun h => by cases h⟩
  · rw [espec]; exact trodAll_mk1 (shut_bool bool_formBack true)
  · rw [espec]
    exact trodAll_mk1 (WideElems.Trod_stays laidOut_formBack read23_formBack row23_formBack h0 (fun x hx => by
      have hp := hlt x (by simp [hx])
      cases x with
      | cell b o => exact World.cell?_of_block (w := W) (hs b hp)
      | map b => exact hs b hp) (fun x hx => by simpa using hlt x (by simp [hx])))
  · rw [espec]; rfl
  · refine ⟨hk.1, hk.2.1, fun i hi => ?_⟩
    have := hk.2.2 i hi
    rw [hs i hi]
    split <;> simp_all
theorem formBack_holds : Rows.FormBackSaid :=
  OpenClaim.holds_of_wide 7 Tryz.f7 rfl rfl rfl rfl rfl rfl rfl ⟨rfl, rfl, rfl, rfl, rfl⟩ rfl rfl rfl rfl rfl (by kernel_rfl) Tryz.func7 (by kernel_rfl)
    (of_decide_eq_true (by kernel_rfl)) (by unfold Func.isWrapper; rw [if_neg (of_decide_eq_false (by kernel_rfl))]; exact ⟨rfl, rfl⟩)
    (fun os started H enc _ => lifted_formBack os started H enc)
theorem formBack_card : Rows.FormBackCardSaid :=
  Claim7.holds_tied_plain_at .later [] [.data, .data, .data, .data, .sentinel, .sentinel, .pinned] true (true, "b3b75d3e1fb4fa33286284f61d84af873dc38b71d4113483106fd6415247b205") true
    formBack_holds (fun _ h => by cases h) (by kernel_rfl) (fun _ h => by cases h) formBack_row_tie rfl ⟨rfl, rfl⟩ (by kernel_rfl) rfl
    (fun f fn hf hfn => by
      obtain rfl : f = 7 := Option.some.inj ((show Tryz.prog.funcNamed "quadrat/quadratlaw03.FormBack" = some 7 by kernel_rfl).symm.trans hf) |>.symm
      obtain rfl : fn = Tryz.f7 := (Option.some.inj (Tryz.func7.symm.trans hfn)).symm
      exact ⟨by kernel_rfl, fun j t ht => by
        rw [params_formBack] at ht
        rcases j with _ | j
        · obtain rfl : t = 23 := by simpa using ht.symm
          exact (show Tryz.prog.wantsStandIn 23 = false by kernel_rfl)
        · simp at ht⟩)
    (by kernel_rfl)
end Go.Q
namespace Go.Proofs.YtoecgpemlfoogaaGreatDoor
theorem formBack_proved : Rows.FormBackCardSaid := Go.Q.formBack_card
end Go.Proofs.YtoecgpemlfoogaaGreatDoor
#print axioms Go.Proofs.YtoecgpemlfoogaaGreatDoor.formBack_proved
