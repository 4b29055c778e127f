import Derived.Test.YtmfhkipeapdfmaaGreatDoorDQC
import Derived.Test.YtmfhkipeapdfmaaGreatDoorDKZ
import Derived.Test.YtmfhkipeapdfmaaGreatDoorRows
import Derived.Test.YtmfhkipeapdfmaaGreatDoorTie
import Derived.Test.YtmfhkipeapdfmaaGreatDoorCards
import Derived.Test.YtmfhkipeapdfmaaGreatDoorZA
namespace Go.Q
open Go Go.Proofs Go.RowKit Go.ChangeShapes Go.WideShapes Go.ChangeAt
open Go.Proofs.YtmfhkipeapdfmaaGreatDoor
set_option maxRecDepth 100000
set_option maxHeartbeats 4000000
theorem own_decimalExact : ownKnob Tryz.prog.godebug = none := by kernel_rfl
theorem laidOut_decimalExact : laidOutB Tryz.prog = true := by kernel_rfl
theorem params_decimalExact : Tryz.f8.params = #[3, 3] := by kernel_rfl
theorem bool_decimalExact : Tryz.prog.underlying 4 = some .bool := by kernel_rfl
theorem read3_decimalExact : Tryz.prog.readableRec 3 = true := by kernel_rfl
theorem row3_decimalExact : 3 < Tryz.prog.types.size := by rw [show Tryz.prog.types.size = 241 by kernel_rfl]; decide
theorem ty3_decimalExact : Tryz.prog.underlying 3 = some (.int .i64) := by kernel_rfl
abbrev lays_decimalExact : List (String × DataW Unit) := YtmfhkipeapdfmaaGreatDoor.Rows.decimalExactRow.laid
noncomputable def world_decimalExact (os : Os) : World := (World.holding Tryz.prog os ⟨#[], #[], []⟩).layVars Tryz.prog lays_decimalExact
theorem met_decimalExact (os : Os) (args : Array Value) : laidMetH Tryz.prog lays_decimalExact ((world_decimalExact os).forCall (fun _ _ => 0) ⟨#[], args, []⟩).memory := by
  refine laidMetH_of_parts (laidMet_layVars (w0 := World.holding Tryz.prog os ⟨#[], #[], []⟩) (lays_decimalExact.map (·.1)) [] ?_ ?_ ?_ ?_) (by kernel_rfl)
  · rfl
  · kernel_rfl
  · kernel_rfl
  · exact LaidIn.none
theorem gives_decimalExact (x0 : Int) (x1 : Int) : Gives Tryz.prog 8 [.lit (.int .i64 x0), .lit (.int .i64 x1)] (.lit (.bool true)) := Law2.DecimalExact_ok (DecimalExact_eq x0 x1)
theorem lifted_decimalExact (os : Os) (started : os.Started) (H : Type) (enc : TypeId × Value → H) :
    ReturnsInHanded {} Tryz.checked os 8 .any (fun w args => (Rows.decimalExactSpec.pre enc Tryz.prog Tryz.f8 Rows.decimalExactRow.domain false w args ∧ laidMetH Tryz.prog lays_decimalExact w) ∧ sizedMet enc Tryz.prog Tryz.f8 (OpenSpec.ofChange Rows.decimalExactSpec) false w args)
      (Rows.decimalExactSpec.post enc Tryz.prog Tryz.f8 false true false false) := by
  refine returns_of_change_open (C := Tryz.checked) (X := fun w _ => laidMetH Tryz.prog lays_decimalExact w) (fun _ _ _ hh h => h.of_heap hh) own_decimalExact started (by kernel_rfl) Tryz.func8
    (ChangeSpec.witness_at (enc := enc) (C := Tryz.checked) (os := os) (X := fun w _ => laidMetH Tryz.prog lays_decimalExact w) false (world_decimalExact os) #[.int .i64 0, .int .i64 0] 8 (World.layVars_os _ _ _) (by kernel_rfl) (by kernel_rfl) (by kernel_rfl) (by kernel_rfl) (by kernel_rfl) (met_decimalExact os _)) ?_
  intro W base args ds gs before hval0 hW hopen hX
  have hW' := hW
  obtain ⟨p, q, hA0, hV, rfl, _⟩ := hW
  have hA : DataW.TrodAll enc Tryz.prog W 0 (fun _ => true) true Tryz.f8.params.toList args.toList ds p := hA0
  rw [params_decimalExact] at hA
  obtain ⟨v0, v1, d0, d1, p0, p1, rfl, rfl, rfl, h0, h1⟩ := trodAll_two hA
  obtain ⟨rfl, rfl⟩ : gs = [] ∧ q = [] := by
    cases gs with
    | nil => exact ⟨rfl, hV⟩
    | cons g r => exact absurd hV (by intro h; cases h)
  obtain ⟨x0, e0, _⟩ := open_int ty3_decimalExact (hval0 0 3 v0 (by rw [params_decimalExact]; rfl) rfl) h0
  obtain ⟨x1, e1, _⟩ := open_int ty3_decimalExact (hval0 1 3 v1 (by rw [params_decimalExact]; rfl) rfl) h1
  have espec : Rows.decimalExactSpec.fn H ([d0, d1] ++ []) = { results := [.lit (.bool true)], args := [d0, d1] } := rfl
  refine (Gives.calls Tryz.func8 rfl (by kernel_rfl) (gives_decimalExact x0 x1) W #[v0, v1] (know_laid hopen (tab_cells hX 2 (n := "internal/strconv.uint64pow10") (k := .u64) (zs := Lib.pow10Tab) (g := 2) (t := 207) (e := 87) (N := 20) rfl (by kernel_rfl) (by kernel_rfl) (by kernel_rfl) (by kernel_rfl) (by kernel_rfl) (by kernel_rfl)) (tab_cells hX 1 (n := "math/bits.deBruijn64tab") (k := .u8) (zs := Lib.deBruijn64tab.map fun n => ((n : Nat) : Int)) (g := 0) (t := 185) (e := 5) (N := 64) rfl (by kernel_rfl) (by kernel_rfl) (by kernel_rfl) (by kernel_rfl) (by kernel_rfl) (by kernel_rfl))) ⟨rfl, fun i hi => by
    match i, hi with
    | 0, _ => exact (by subst e0; exact .lit _ _)
    | 1, _ => exact (by subst e1; exact .lit _ _)⟩).mono fun e W' ⟨he, hk, hg, hs⟩ => ?_
  subst he
  have hlt := DataW.TrodAll.lt hA0
  refine ⟨_, rfl, _, _, _, [], p0 ++ p1, [], hW', ?_, ?_, ?_, ?_, fun h => by cases h⟩
  · rw [espec]; exact trodAll_mk1 (shut_bool bool_decimalExact true)
  · rw [espec]
    exact trodAll_mk2 (WideElems.Trod_stays laidOut_decimalExact read3_decimalExact row3_decimalExact h0 (fun x hx => by
      have hp := hlt x (by simp [hx])
      cases x with
      | cell b o => exact World.cell?_of_block (w := W) (hs b hp)
      | map b => exact hs b hp) (fun x hx => by simpa using hlt x (by simp [hx]))) (WideElems.Trod_stays laidOut_decimalExact read3_decimalExact row3_decimalExact h1 (fun x hx => by
      have hp := hlt x (by simp [hx])
      cases x with
      | cell b o => exact World.cell?_of_block (w := W) (hs b hp)
      | map b => exact hs b hp) (fun x hx => by simpa using hlt x (by simp [hx])))
  · rw [espec]; rfl
  · refine ⟨hk.1, hk.2.1, fun i hi => ?_⟩
    have := hk.2.2 i hi
    rw [hs i hi]
    split <;> simp_all
theorem decimalExact_holds : Rows.DecimalExactSaid :=
  OpenClaim.holds_of_wide 8 Tryz.f8 rfl rfl rfl rfl rfl rfl rfl ⟨rfl, rfl, rfl, rfl, rfl⟩ rfl rfl rfl rfl rfl (by kernel_rfl) Tryz.func8 (by kernel_rfl)
    (of_decide_eq_true (by kernel_rfl)) (by unfold Func.isWrapper; rw [if_neg (of_decide_eq_false (by kernel_rfl))]; exact ⟨rfl, rfl⟩)
    (fun os started H enc _ => lifted_decimalExact os started H enc)
theorem decimalExact_card : Rows.DecimalExactCardSaid :=
  Claim7.holds_tied_plain_at .later [] [.data, .data, .data, .data, .sentinel, .sentinel, .pinned] true (true, "d429bbc2e8e6bf5278ad4261b0617f2233cd2cd5b0553bd56e2f9892a2cd8e37") true
    decimalExact_holds (fun _ h => by cases h) (by kernel_rfl) (fun _ h => by cases h) decimalExact_row_tie rfl ⟨rfl, rfl⟩ (by kernel_rfl) rfl
    (fun f fn hf hfn => by
      obtain rfl : f = 8 := Option.some.inj ((show Tryz.prog.funcNamed "quadrat/quadratlaw02.DecimalExact" = some 8 by kernel_rfl).symm.trans hf) |>.symm
      obtain rfl : fn = Tryz.f8 := (Option.some.inj (Tryz.func8.symm.trans hfn)).symm
      exact ⟨by kernel_rfl, fun j t ht => by
        rw [params_decimalExact] at ht
        rcases j with _ | _ | j
        · obtain rfl : t = 3 := by simpa using ht.symm
          exact (show Tryz.prog.wantsStandIn 3 = false by kernel_rfl)
        · obtain rfl : t = 3 := by simpa using ht.symm
          exact (show Tryz.prog.wantsStandIn 3 = false by kernel_rfl)
        · simp at ht⟩)
    (by kernel_rfl)
end Go.Q
namespace Go.Proofs.YtmfhkipeapdfmaaGreatDoor
theorem decimalExact_proved : Rows.DecimalExactCardSaid := Go.Q.decimalExact_card
end Go.Proofs.YtmfhkipeapdfmaaGreatDoor
#print axioms Go.Proofs.YtmfhkipeapdfmaaGreatDoor.decimalExact_proved
