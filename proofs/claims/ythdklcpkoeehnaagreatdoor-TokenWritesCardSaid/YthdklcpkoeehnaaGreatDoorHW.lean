/- For every input the law quadratlaw04.TokenWrites answers true, and the input reads as it did. No conditions. -/
import Derived.Test.YthdklcpkoeehnaaGreatDoorW2
import Derived.Test.YthdklcpkoeehnaaGreatDoorKZ
import Derived.Test.YthdklcpkoeehnaaGreatDoorRows
import Derived.Test.YthdklcpkoeehnaaGreatDoorTie
import Derived.Test.YthdklcpkoeehnaaGreatDoorCards
import Derived.Test.YthdklcpkoeehnaaGreatDoorZA
namespace Go.Q
open Go Go.Proofs Go.RowKit Go.ChangeShapes Go.WideShapes Go.ChangeAt
open Go.Proofs.YthdklcpkoeehnaaGreatDoor
set_option maxRecDepth 100000
set_option maxHeartbeats 4000000

theorem own_tokenWrites : ownKnob Tryz.prog.godebug = none := by kernel_rfl
theorem laidOut_tokenWrites : laidOutB Tryz.prog = true := by kernel_rfl
theorem params_tokenWrites : Tryz.f4.params = #[27] := by kernel_rfl
theorem bool_tokenWrites : Tryz.prog.underlying 4 = some .bool := by kernel_rfl
theorem read27_tokenWrites : Tryz.prog.readableRec 27 = true := by kernel_rfl
theorem row27_tokenWrites : 27 < Tryz.prog.types.size := by rw [show Tryz.prog.types.size = 149 by kernel_rfl]; decide
theorem ty27_tokenWrites : Tryz.prog.underlying 27 = some (.slice 23) := by kernel_rfl
theorem c23_9_tokenWrites : Tryz.prog.cellsOf 9 = 1 := by kernel_rfl
theorem u23_9_tokenWrites : Tryz.prog.underlying 9 = some (.string) := by kernel_rfl
theorem flat23_tokenWrites : FlatT Tryz.prog 23 [.s, .s] #[{ name := "Kind", type := 9, offset := 0, embedded := false, tag := "", pkgPath := "", byteOffset := 0 }, { name := "Text", type := 9, offset := 1, embedded := false, tag := "", pkgPath := "", byteOffset := 16 }] := by
  refine ⟨by kernel_rfl, by kernel_rfl, rfl, fun i f x hf hx => ?_⟩
  match i, hf, hx with
  | 0, hf, hx => cases Option.some.inj hf; cases Option.some.inj hx; exact ⟨u23_9_tokenWrites, rfl, c23_9_tokenWrites⟩
  | 1, hf, hx => cases Option.some.inj hf; cases Option.some.inj hx; exact ⟨u23_9_tokenWrites, rfl, c23_9_tokenWrites⟩
  | j + 2, hf, _ => simp at hf
theorem fits23_tokenWrites {r : List Value} (h : FitsAll [.s, .s] r) : ∃ x : api.Token, rowAV r = api.Token.enc x := by
  match r, h.1 with
  | [v0, v1], _ =>
    obtain ⟨x0, rfl⟩ := h.2 0 (.s) v0 rfl rfl
    obtain ⟨x1, rfl⟩ := h.2 1 (.s) v1 rfl rfl
    exact ⟨⟨x0, x1⟩, rfl⟩
abbrev lays_tokenWrites : List (String × DataW Unit) := YthdklcpkoeehnaaGreatDoor.Rows.tokenWritesRow.laid
noncomputable def world_tokenWrites (os : Os) : World := (World.holding Tryz.prog os ⟨#[], #[], []⟩).layVars Tryz.prog lays_tokenWrites
theorem met_tokenWrites (os : Os) (args : Array Value) : laidMetH Tryz.prog lays_tokenWrites ((world_tokenWrites os).forCall (fun _ _ => 0) ⟨#[], args, []⟩).memory := by
  refine laidMetH_of_parts (laidMet_layVars (w0 := World.holding Tryz.prog os ⟨#[], #[], []⟩) (lays_tokenWrites.map (·.1)) [] ?_ ?_ ?_ ?_) (by kernel_rfl)
  · rfl
  · kernel_rfl
  · kernel_rfl
  · exact LaidIn.none

theorem gives_tokenWrites (x0 : List api.Token) : Gives Tryz.prog 4 [.vs 2 (x0.map (api.Token.enc))] (.lit (.bool true)) := Law4.TokenWrites_ok (TokenWrites_eq x0)

theorem lifted_tokenWrites (os : Os) (started : os.Started) (H : Type) (enc : TypeId × Value → H) :
    ReturnsInHanded {} Tryz.checked os 4 .any (fun w args => (Rows.tokenWritesSpec.pre enc Tryz.prog Tryz.f4 Rows.tokenWritesRow.domain false w args ∧ laidMetH Tryz.prog lays_tokenWrites w) ∧ sizedMet enc Tryz.prog Tryz.f4 (OpenSpec.ofChange Rows.tokenWritesSpec) false w args)
      (Rows.tokenWritesSpec.post enc Tryz.prog Tryz.f4 false true false false) := by
  refine returns_of_change_open (C := Tryz.checked) (X := fun w _ => laidMetH Tryz.prog lays_tokenWrites w) (fun _ _ _ hh h => h.of_heap hh) own_tokenWrites started (by kernel_rfl) Tryz.func4
    (ChangeSpec.witness_at (enc := enc) (C := Tryz.checked) (os := os) (X := fun w _ => laidMetH Tryz.prog lays_tokenWrites w) false (world_tokenWrites os) #[.slice none 0 0] 8 (World.layVars_os _ _ _) (by kernel_rfl) (by kernel_rfl) (by kernel_rfl) (by kernel_rfl) (by kernel_rfl) (met_tokenWrites os _)) ?_
  intro W base args ds gs before hval0 hW hopen _
  have hW' := hW
  obtain ⟨p, q, hA0, hV, rfl, _⟩ := hW
  have hA : DataW.TrodAll enc Tryz.prog W 0 (fun _ => true) true Tryz.f4.params.toList args.toList ds p := hA0
  rw [params_tokenWrites] at hA
  obtain ⟨v0, d0, rfl, rfl, h0⟩ := trodAll_one hA
  obtain ⟨rfl, rfl⟩ : gs = [] ∧ q = [] := by
    cases gs with
    | nil => exact ⟨rfl, hV⟩
    | cons g r => exact absurd hV (by intro h; cases h)
  obtain ⟨l0, _, hf0, r0⟩ := open_rows ty27_tokenWrites flat23_tokenWrites (by decide) h0 (slice_cells ty27_tokenWrites (hval0 0 27 v0 (by rw [params_tokenWrites]; rfl) rfl))
  obtain ⟨x0, e0⟩ := rows_of (fun r hr => fits23_tokenWrites (hf0 r hr))
  rw [e0] at r0
  have e1 : Rows.tokenWritesSpec.fn H ([d0] ++ []) = { results := [.lit (.bool true)], args := [d0] } := rfl
  refine (Gives.calls Tryz.func4 rfl (by kernel_rfl) (gives_tokenWrites x0) W #[v0] (know_open hopen) ⟨rfl, fun i hi => by
    match i, hi with
    | 0, _ => exact r0⟩).mono fun e W' ⟨he, hk, hg, hs⟩ => ?_
  subst he
  have hlt := DataW.TrodAll.lt hA0
  refine ⟨_, rfl, _, _, _, [], p, [], hW', ?_, ?_, ?_, ?_, fun h => by cases h⟩
  · rw [e1]; exact trodAll_mk1 (shut_bool bool_tokenWrites true)
  · rw [e1]
    exact trodAll_mk1 (WideElems.Trod_stays laidOut_tokenWrites read27_tokenWrites row27_tokenWrites h0 (fun x hx => by
      have hp := hlt x (by simp [hx])
      cases x with
      | cell b o => exact World.cell?_of_block (w := W) (hs b hp)
      | map b => exact hs b hp) (fun x hx => by simpa using hlt x (by simp [hx])))
  · rw [e1]; rfl
  · refine ⟨hk.1, hk.2.1, fun i hi => ?_⟩
    have := hk.2.2 i hi
    rw [hs i hi]
    split <;> simp_all

theorem tokenWrites_holds : Rows.TokenWritesSaid :=
  OpenClaim.holds_of_wide 4 Tryz.f4 rfl rfl rfl rfl rfl rfl rfl ⟨rfl, rfl, rfl, rfl, rfl⟩ rfl rfl rfl rfl rfl (by kernel_rfl) Tryz.func4 (by kernel_rfl)
    (of_decide_eq_true (by kernel_rfl)) (by unfold Func.isWrapper; rw [if_neg (of_decide_eq_false (by kernel_rfl))]; exact ⟨rfl, rfl⟩)
    (fun os started H enc _ => lifted_tokenWrites os started H enc)

theorem tokenWrites_card : Rows.TokenWritesCardSaid :=
  Claim7.holds_tied_plain_at .later [] [.data, .data, .data, .data, .sentinel, .sentinel, .pinned] true (true, "aff57cbb7a5616698eac88a1c958f52f541e46614df290270c3c46692bce17ab") true
    tokenWrites_holds (fun _ h => by cases h) (by kernel_rfl) (fun _ h => by cases h) tokenWrites_row_tie rfl ⟨rfl, rfl⟩ (by kernel_rfl) rfl
    (fun f fn hf hfn => by
      obtain rfl : f = 4 := Option.some.inj ((show Tryz.prog.funcNamed "quadrat/quadratlaw04.TokenWrites" = some 4 by kernel_rfl).symm.trans hf) |>.symm
      obtain rfl : fn = Tryz.f4 := (Option.some.inj (Tryz.func4.symm.trans hfn)).symm
      exact ⟨by kernel_rfl, fun j t ht => by
        rw [params_tokenWrites] at ht
        rcases j with _ | j
        · obtain rfl : t = 27 := by simpa using ht.symm
          exact (show Tryz.prog.wantsStandIn 27 = false by kernel_rfl)
        · simp at ht⟩)
    (by kernel_rfl)
end Go.Q
namespace Go.Proofs.YthdklcpkoeehnaaGreatDoor
theorem tokenWrites_proved : Rows.TokenWritesCardSaid := Go.Q.tokenWrites_card
end Go.Proofs.YthdklcpkoeehnaaGreatDoor
#print axioms Go.Proofs.YthdklcpkoeehnaaGreatDoor.tokenWrites_proved
