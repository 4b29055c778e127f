import Derived.Test.YtmfhkipeapdfmaaGreatDoorEM
import Derived.Test.YtmfhkipeapdfmaaGreatDoorDKZ
import Derived.Test.YtmfhkipeapdfmaaGreatDoorRows
import Derived.Test.YtmfhkipeapdfmaaGreatDoorTie
import Derived.Test.YtmfhkipeapdfmaaGreatDoorCards
import Derived.Test.YtmfhkipeapdfmaaGreatDoorZA
namespace Go.Q
open Go Go.Proofs Go.RowKit Go.ChangeShapes Go.WideShapes Go.ChangeAt
open Go.Proofs.YtmfhkipeapdfmaaGreatDoor
set_option maxRecDepth 100000
set_option maxHeartbeats 4000000
theorem own_decimalModes : ownKnob Tryz.prog.godebug = none := by kernel_rfl
theorem laidOut_decimalModes : laidOutB Tryz.prog = true := by kernel_rfl
theorem params_decimalModes : Tryz.f5.params = #[9, 3] := by kernel_rfl
theorem bool_decimalModes : Tryz.prog.underlying 4 = some .bool := by kernel_rfl
theorem read3_decimalModes : Tryz.prog.readableRec 3 = true := by kernel_rfl
theorem row3_decimalModes : 3 < Tryz.prog.types.size := by rw [show Tryz.prog.types.size = 241 by kernel_rfl]; decide
theorem read9_decimalModes : Tryz.prog.readableRec 9 = true := by kernel_rfl
theorem row9_decimalModes : 9 < Tryz.prog.types.size := by rw [show Tryz.prog.types.size = 241 by kernel_rfl]; decide
theorem ty9_decimalModes : Tryz.prog.underlying 9 = some .string := by kernel_rfl
theorem ty3_decimalModes : Tryz.prog.underlying 3 = some (.int .i64) := by kernel_rfl
abbrev lays_decimalModes : List (String × DataW Unit) := YtmfhkipeapdfmaaGreatDoor.Rows.decimalModesRow.laid
noncomputable def world_decimalModes (os : Os) : World := (World.holding Tryz.prog os ⟨#[], #[], []⟩).layVars Tryz.prog lays_decimalModes
theorem met_decimalModes (os : Os) (args : Array Value) : laidMetH Tryz.prog lays_decimalModes ((world_decimalModes os).forCall (fun _ _ => 0) ⟨#[], args, []⟩).memory := by
  refine laidMetH_of_parts (laidMet_layVars (w0 := World.holding Tryz.prog os ⟨#[], #[], []⟩) (lays_decimalModes.map (·.1)) [] ?_ ?_ ?_ ?_) (by kernel_rfl)
  · rfl
  · kernel_rfl
  · kernel_rfl
  · exact LaidIn.none
theorem gives_decimalModes (x0 : ByteArray) (x1 : Int) : Gives Tryz.prog 5 [.lit (.string x0), .lit (.int .i64 x1)] (.lit (.bool true)) := Law2.DecimalModes_ok (DecimalModes_eq x0 x1)
theorem lifted_decimalModes (os : Os) (started : os.Started) (H : Type) (enc : TypeId × Value → H) :
    ReturnsInHanded {} Tryz.checked os 5 .any (fun w args => (Rows.decimalModesSpec.pre enc Tryz.prog Tryz.f5 Rows.decimalModesRow.domain false w args ∧ laidMetH Tryz.prog lays_decimalModes w) ∧ sizedMet enc Tryz.prog Tryz.f5 (OpenSpec.ofChange Rows.decimalModesSpec) false w args)
      (Rows.decimalModesSpec.post enc Tryz.prog Tryz.f5 false true false false) := by
  refine returns_of_change_open (C := Tryz.checked) (X := fun w _ => laidMetH Tryz.prog lays_decimalModes w) (fun _ _ _ hh h => h.of_heap hh) own_decimalModes started (by kernel_rfl) Tryz.func5
    (ChangeSpec.witness_at (enc := enc) (C := Tryz.checked) (os := os) (X := fun w _ => laidMetH Tryz.prog lays_decimalModes w) false (world_decimalModes os) #[.string ⟨#[]⟩, .int .i64 0] 8 (World.layVars_os _ _ _) (by kernel_rfl) (by kernel_rfl) (by kernel_rfl) (by kernel_rfl) (by kernel_rfl) (met_decimalModes os _)) ?_
  intro W base args ds gs before hval0 hW hopen hX
  have hW' := hW
  obtain ⟨p, q, hA0, hV, rfl, _⟩ := hW
  have hA : DataW.TrodAll enc Tryz.prog W 0 (fun _ => true) true Tryz.f5.params.toList args.toList ds p := hA0
  rw [params_decimalModes] at hA
  obtain ⟨v0, v1, d0, d1, p0, p1, rfl, rfl, rfl, h0, h1⟩ := trodAll_two hA
  obtain ⟨rfl, rfl⟩ : gs = [] ∧ q = [] := by
    cases gs with
    | nil => exact ⟨rfl, hV⟩
    | cons g r => exact absurd hV (by intro h; cases h)
  obtain ⟨x0, e0, _⟩ := Go.ChangeMaps.open_string ty9_decimalModes (hval0 0 9 v0 (by rw [params_decimalModes]; rfl) rfl) h0
  obtain ⟨x1, e1, _⟩ := open_int ty3_decimalModes (hval0 1 3 v1 (by rw [params_decimalModes]; rfl) rfl) h1
  have espec : Rows.decimalModesSpec.fn H ([d0, d1] ++ []) = { results := [.lit (.bool true)], args := [d0, d1] } := rfl
  refine (Gives.calls Tryz.func5 rfl (by kernel_rfl) (gives_decimalModes x0 x1) W #[v0, v1] (know_laid hopen (tab_cells hX 2 (n := "internal/strconv.uint64pow10") (k := .u64) (zs := Lib.pow10Tab) (g := 2) (t := 207) (e := 87) (N := 20) rfl (by kernel_rfl) (by kernel_rfl) (by kernel_rfl) (by kernel_rfl) (by kernel_rfl) (by kernel_rfl)) (tab_cells hX 1 (n := "math/bits.deBruijn64tab") (k := .u8) (zs := Lib.deBruijn64tab.map fun n => ((n : Nat) : Int)) (g := 0) (t := 185) (e := 5) (N := 64) rfl (by kernel_rfl) (by kernel_rfl) (by kernel_rfl) (by kernel_rfl) (by kernel_rfl) (by kernel_rfl))) ⟨rfl, fun i hi => by
    match i, hi with
    | 0, _ => exact (by subst e0; exact .lit _ _)
    | 1, _ => exact (by subst e1; exact .lit _ _)⟩).mono fun e W' ⟨he, hk, hg, hs⟩ => ?_
  subst he
  have hlt := DataW.TrodAll.lt hA0
  refine ⟨_, rfl, _, _, _, [], p0 ++ p1, [], hW', ?_, ?_, ?_, ?_, fun h => by cases h⟩
  · rw [espec]; exact trodAll_mk1 (shut_bool bool_decimalModes true)
  · rw [espec]
    exact trodAll_mk2 (WideElems.Trod_stays laidOut_decimalModes read9_decimalModes row9_decimalModes h0 (fun x hx => by
      have hp := hlt x (by simp [hx])
      cases x with
      | cell b o => exact World.cell?_of_block (w := W) (hs b hp)
      | map b => exact hs b hp) (fun x hx => by simpa using hlt x (by simp [hx]))) (WideElems.Trod_stays laidOut_decimalModes read3_decimalModes row3_decimalModes h1 (fun x hx => by
      have hp := hlt x (by simp [hx])
      cases x with
      | cell b o => exact World.cell?_of_block (w := W) (hs b hp)
      | map b => exact hs b hp) (fun x hx => by simpa using hlt x (by simp [hx])))
  · rw [espec]; rfl
  · refine ⟨hk.1, hk.2.1, fun i hi => ?_⟩
    have := hk.2.2 i hi
    rw [hs i hi]
    split <;> simp_all
theorem decimalModes_holds : Rows.DecimalModesSaid :=
  OpenClaim.holds_of_wide 5 Tryz.f5 rfl rfl rfl rfl rfl rfl rfl ⟨rfl, rfl, rfl, rfl, rfl⟩ rfl rfl rfl rfl rfl (by kernel_rfl) Tryz.func5 (by kernel_rfl)
    (of_decide_eq_true (by kernel_rfl)) (by unfold Func.isWrapper; rw [if_neg (of_decide_eq_false (by kernel_rfl))]; exact ⟨rfl, rfl⟩)
    (fun os started H enc _ => lifted_decimalModes os started H enc)
theorem decimalModes_card : Rows.DecimalModesCardSaid :=
  Claim7.holds_tied_plain_at .later [] [.data, .data, .data, .data, .sentinel, .sentinel, .pinned] true (true, "d429bbc2e8e6bf5278ad4261b0617f2233cd2cd5b0553bd56e2f9892a2cd8e37") true
    decimalModes_holds (fun _ h => by cases h) (by kernel_rfl) (fun _ h => by cases h) decimalModes_row_tie rfl ⟨rfl, rfl⟩ (by kernel_rfl) rfl
    (fun f fn hf hfn => by
      obtain rfl : f = 5 := Option.some.inj ((show Tryz.prog.funcNamed "quadrat/quadratlaw02.DecimalModes" = some 5 by kernel_rfl).symm.trans hf) |>.symm
      obtain rfl : fn = Tryz.f5 := (Option.some.inj (Tryz.func5.symm.trans hfn)).symm
      exact ⟨by kernel_rfl, fun j t ht => by
        rw [params_decimalModes] at ht
        rcases j with _ | _ | j
        · obtain rfl : t = 9 := by simpa using ht.symm
          exact (show Tryz.prog.wantsStandIn 9 = false by kernel_rfl)
        · obtain rfl : t = 3 := by simpa using ht.symm
          exact (show Tryz.prog.wantsStandIn 3 = false by kernel_rfl)
        · simp at ht⟩)
    (by kernel_rfl)
end Go.Q
namespace Go.Proofs.YtmfhkipeapdfmaaGreatDoor
theorem decimalModes_proved : Rows.DecimalModesCardSaid := Go.Q.decimalModes_card
end Go.Proofs.YtmfhkipeapdfmaaGreatDoor
#print axioms Go.Proofs.YtmfhkipeapdfmaaGreatDoor.decimalModes_proved
