/- For every input the law quadratlaw04.TokenValids answers true, and the input reads as it did. No conditions. -/
import Derived.Test.YthdklcpkoeehnaaGreatDoorV5
import Derived.Test.YthdklcpkoeehnaaGreatDoorKZ
import Derived.Test.YthdklcpkoeehnaaGreatDoorRows
import Derived.Test.YthdklcpkoeehnaaGreatDoorTie
import Derived.Test.YthdklcpkoeehnaaGreatDoorCards
import Derived.Test.YthdklcpkoeehnaaGreatDoorZA
namespace Go.Q
open Go Go.Proofs Go.RowKit Go.ChangeShapes Go.WideShapes Go.ChangeAt
open Go.Proofs.YthdklcpkoeehnaaGreatDoor
set_option maxRecDepth 100000
set_option maxHeartbeats 4000000

theorem own_tokenValids : ownKnob Tryz.prog.godebug = none := by kernel_rfl
theorem laidOut_tokenValids : laidOutB Tryz.prog = true := by kernel_rfl
theorem params_tokenValids : Tryz.f3.params = #[23, 9] := by kernel_rfl
theorem bool_tokenValids : Tryz.prog.underlying 4 = some .bool := by kernel_rfl
theorem read9_tokenValids : Tryz.prog.readableRec 9 = true := by kernel_rfl
theorem row9_tokenValids : 9 < Tryz.prog.types.size := by rw [show Tryz.prog.types.size = 149 by kernel_rfl]; decide
theorem read23_tokenValids : Tryz.prog.readableRec 23 = true := by kernel_rfl
theorem row23_tokenValids : 23 < Tryz.prog.types.size := by rw [show Tryz.prog.types.size = 149 by kernel_rfl]; decide
theorem c23_9_tokenValids : Tryz.prog.cellsOf 9 = 1 := by kernel_rfl
theorem u23_9_tokenValids : Tryz.prog.underlying 9 = some (.string) := by kernel_rfl
theorem flat23_tokenValids : FlatT Tryz.prog 23 [.s, .s] #[{ name := "Kind", type := 9, offset := 0, embedded := false, tag := "", pkgPath := "", byteOffset := 0 }, { name := "Text", type := 9, offset := 1, embedded := false, tag := "", pkgPath := "", byteOffset := 16 }] := by
  refine ⟨by kernel_rfl, by kernel_rfl, rfl, fun i f x hf hx => ?_⟩
  match i, hf, hx with
  | 0, hf, hx => cases Option.some.inj hf; cases Option.some.inj hx; exact ⟨u23_9_tokenValids, rfl, c23_9_tokenValids⟩
  | 1, hf, hx => cases Option.some.inj hf; cases Option.some.inj hx; exact ⟨u23_9_tokenValids, rfl, c23_9_tokenValids⟩
  | j + 2, hf, _ => simp at hf
theorem fits23_tokenValids {r : List Value} (h : FitsAll [.s, .s] r) : ∃ x : api.Token, rowAV r = api.Token.enc x := by
  match r, h.1 with
  | [v0, v1], _ =>
    obtain ⟨x0, rfl⟩ := h.2 0 (.s) v0 rfl rfl
    obtain ⟨x1, rfl⟩ := h.2 1 (.s) v1 rfl rfl
    exact ⟨⟨x0, x1⟩, rfl⟩
theorem ty9_tokenValids : Tryz.prog.underlying 9 = some .string := by kernel_rfl
abbrev lays_tokenValids : List (String × DataW Unit) := YthdklcpkoeehnaaGreatDoor.Rows.tokenValidsRow.laid
noncomputable def world_tokenValids (os : Os) : World := (World.holding Tryz.prog os ⟨#[], #[], []⟩).layVars Tryz.prog lays_tokenValids
theorem met_tokenValids (os : Os) (args : Array Value) : laidMetH Tryz.prog lays_tokenValids ((world_tokenValids os).forCall (fun _ _ => 0) ⟨#[], args, []⟩).memory := by
  refine laidMetH_of_parts (laidMet_layVars (w0 := World.holding Tryz.prog os ⟨#[], #[], []⟩) (lays_tokenValids.map (·.1)) [] ?_ ?_ ?_ ?_) (by kernel_rfl)
  · rfl
  · kernel_rfl
  · kernel_rfl
  · exact LaidIn.none

theorem gives_tokenValids (x0 : api.Token) (x1 : ByteArray) : Gives Tryz.prog 3 [api.Token.enc x0, .lit (.string x1)] (.lit (.bool true)) := Law4.TokenValids_ok (TokenValids_eq x0 x1)

theorem lifted_tokenValids (os : Os) (started : os.Started) (H : Type) (enc : TypeId × Value → H) :
    ReturnsInHanded {} Tryz.checked os 3 .any (fun w args => (Rows.tokenValidsSpec.pre enc Tryz.prog Tryz.f3 Rows.tokenValidsRow.domain false w args ∧ laidMetH Tryz.prog lays_tokenValids w) ∧ sizedMet enc Tryz.prog Tryz.f3 (OpenSpec.ofChange Rows.tokenValidsSpec) false w args)
      (Rows.tokenValidsSpec.post enc Tryz.prog Tryz.f3 false true false false) := by
  refine returns_of_change_open (C := Tryz.checked) (X := fun w _ => laidMetH Tryz.prog lays_tokenValids w) (fun _ _ _ hh h => h.of_heap hh) own_tokenValids started (by kernel_rfl) Tryz.func3
    (ChangeSpec.witness_at (enc := enc) (C := Tryz.checked) (os := os) (X := fun w _ => laidMetH Tryz.prog lays_tokenValids w) false (world_tokenValids os) #[.agg #[.string ⟨#[]⟩, .string ⟨#[]⟩], .string ⟨#[]⟩] 8 (World.layVars_os _ _ _) (by kernel_rfl) (by kernel_rfl) (by kernel_rfl) (by kernel_rfl) (by kernel_rfl) (met_tokenValids os _)) ?_
  intro W base args ds gs before hval0 hW hopen _
  have hW' := hW
  obtain ⟨p, q, hA0, hV, rfl, _⟩ := hW
  have hA : DataW.TrodAll enc Tryz.prog W 0 (fun _ => true) true Tryz.f3.params.toList args.toList ds p := hA0
  rw [params_tokenValids] at hA
  obtain ⟨v0, v1, d0, d1, p0, p1, rfl, rfl, rfl, h0, h1⟩ := trodAll_two hA
  obtain ⟨rfl, rfl⟩ : gs = [] ∧ q = [] := by
    cases gs with
    | nil => exact ⟨rfl, hV⟩
    | cons g r => exact absurd hV (by intro h; cases h)
  obtain ⟨a0, e0, hf0⟩ := open_struct flat23_tokenValids (hval0 0 23 v0 (by rw [params_tokenValids]; rfl) rfl) h0
  obtain ⟨x0, q0⟩ := fits23_tokenValids hf0
  obtain ⟨x1, e1, _⟩ := Go.ChangeMaps.open_string ty9_tokenValids (hval0 1 9 v1 (by rw [params_tokenValids]; rfl) rfl) h1
  have espec : Rows.tokenValidsSpec.fn H ([d0, d1] ++ []) = { results := [.lit (.bool true)], args := [d0, d1] } := rfl
  refine (Gives.calls Tryz.func3 rfl (by kernel_rfl) (gives_tokenValids x0 x1) W #[v0, v1] (know_open hopen) ⟨rfl, fun i hi => by
    match i, hi with
    | 0, _ => exact (by subst e0; show RelV _ _ _ (api.Token.enc x0) _; rw [← q0]; exact rel_agg _)
    | 1, _ => exact (by subst e1; exact .lit _ _)⟩).mono fun e W' ⟨he, hk, hg, hs⟩ => ?_
  subst he
  have hlt := DataW.TrodAll.lt hA0
  refine ⟨_, rfl, _, _, _, [], p0 ++ p1, [], hW', ?_, ?_, ?_, ?_, fun h => by cases h⟩
  · rw [espec]; exact trodAll_mk1 (shut_bool bool_tokenValids true)
  · rw [espec]
    exact trodAll_mk2 (WideElems.Trod_stays laidOut_tokenValids read23_tokenValids row23_tokenValids h0 (fun x hx => by
      have hp := hlt x (by simp [hx])
      cases x with
      | cell b o => exact World.cell?_of_block (w := W) (hs b hp)
      | map b => exact hs b hp) (fun x hx => by simpa using hlt x (by simp [hx]))) (WideElems.Trod_stays laidOut_tokenValids read9_tokenValids row9_tokenValids h1 (fun x hx => by
      have hp := hlt x (by simp [hx])
      cases x with
      | cell b o => exact World.cell?_of_block (w := W) (hs b hp)
      | map b => exact hs b hp) (fun x hx => by simpa using hlt x (by simp [hx])))
  · rw [espec]; rfl
  · refine ⟨hk.1, hk.2.1, fun i hi => ?_⟩
    have := hk.2.2 i hi
    rw [hs i hi]
    split <;> simp_all

theorem tokenValids_holds : Rows.TokenValidsSaid :=
  OpenClaim.holds_of_wide 3 Tryz.f3 rfl rfl rfl rfl rfl rfl rfl ⟨rfl, rfl, rfl, rfl, rfl⟩ rfl rfl rfl rfl rfl (by kernel_rfl) Tryz.func3 (by kernel_rfl)
    (of_decide_eq_true (by kernel_rfl)) (by unfold Func.isWrapper; rw [if_neg (of_decide_eq_false (by kernel_rfl))]; exact ⟨rfl, rfl⟩)
    (fun os started H enc _ => lifted_tokenValids os started H enc)

theorem tokenValids_card : Rows.TokenValidsCardSaid :=
  Claim7.holds_tied_plain_at .later [] [.data, .data, .data, .data, .sentinel, .sentinel, .pinned] true (true, "aff57cbb7a5616698eac88a1c958f52f541e46614df290270c3c46692bce17ab") true
    tokenValids_holds (fun _ h => by cases h) (by kernel_rfl) (fun _ h => by cases h) tokenValids_row_tie rfl ⟨rfl, rfl⟩ (by kernel_rfl) rfl
    (fun f fn hf hfn => by
      obtain rfl : f = 3 := Option.some.inj ((show Tryz.prog.funcNamed "quadrat/quadratlaw04.TokenValids" = some 3 by kernel_rfl).symm.trans hf) |>.symm
      obtain rfl : fn = Tryz.f3 := (Option.some.inj (Tryz.func3.symm.trans hfn)).symm
      exact ⟨by kernel_rfl, fun j t ht => by
        rw [params_tokenValids] at ht
        rcases j with _ | _ | j
        · obtain rfl : t = 23 := by simpa using ht.symm
          exact (show Tryz.prog.wantsStandIn 23 = false by kernel_rfl)
        · obtain rfl : t = 9 := by simpa using ht.symm
          exact (show Tryz.prog.wantsStandIn 9 = false by kernel_rfl)
        · simp at ht⟩)
    (by kernel_rfl)
end Go.Q
namespace Go.Proofs.YthdklcpkoeehnaaGreatDoor
theorem tokenValids_proved : Rows.TokenValidsCardSaid := Go.Q.tokenValids_card
end Go.Proofs.YthdklcpkoeehnaaGreatDoor
#print axioms Go.Proofs.YthdklcpkoeehnaaGreatDoor.tokenValids_proved
