import Derived.Test.YtmfhkipeapdfmaaGreatDoorEI
import Derived.Test.YtmfhkipeapdfmaaGreatDoorDKZ
import Derived.Test.YtmfhkipeapdfmaaGreatDoorRows
import Derived.Test.YtmfhkipeapdfmaaGreatDoorTie
import Derived.Test.YtmfhkipeapdfmaaGreatDoorCards
import Derived.Test.YtmfhkipeapdfmaaGreatDoorZR
namespace Go.Q
open Go Go.Proofs Go.RowKit Go.ChangeShapes Go.WideShapes Go.ChangeAt
open Go.Proofs.YtmfhkipeapdfmaaGreatDoor
set_option maxRecDepth 100000
set_option maxHeartbeats 4000000
theorem own_decimalShortest : ownKnob Tryz.prog.godebug = none := by kernel_rfl
theorem laidOut_decimalShortest : laidOutB Tryz.prog = true := by kernel_rfl
theorem params_decimalShortest : Tryz.f3.params = #[3, 3] := by kernel_rfl
theorem bool_decimalShortest : Tryz.prog.underlying 4 = some .bool := by kernel_rfl
theorem read3_decimalShortest : Tryz.prog.readableRec 3 = true := by kernel_rfl
theorem row3_decimalShortest : 3 < Tryz.prog.types.size := by rw [show Tryz.prog.types.size = 241 by kernel_rfl]; decide
theorem u3_decimalShortest : Tryz.prog.underlying 3 = some (.int .i64) := by kernel_rfl
abbrev lays_decimalShortest : List (String × DataW Unit) := YtmfhkipeapdfmaaGreatDoor.Rows.decimalShortestRow.laid
noncomputable def world_decimalShortest (os : Os) : World := (World.holding Tryz.prog os ⟨#[], #[], []⟩).layVars Tryz.prog lays_decimalShortest
theorem met_decimalShortest (os : Os) (args : Array Value) : laidMetH Tryz.prog lays_decimalShortest ((world_decimalShortest os).forCall (fun _ _ => 0) ⟨#[], args, []⟩).memory := by
  refine laidMetH_of_parts (laidMet_layVars (w0 := World.holding Tryz.prog os ⟨#[], #[], []⟩) (lays_decimalShortest.map (·.1)) [] ?_ ?_ ?_ ?_) (by kernel_rfl)
  · rfl
  · kernel_rfl
  · kernel_rfl
  · exact LaidIn.none
theorem gives_decimalShortest (x0 : Int) (hx0 : -9223372036854775808 ≤ x0 ∧ x0 < 9223372036854775808) (x1 : Int) (hx1 : -9223372036854775808 ≤ x1 ∧ x1 < 9223372036854775808) : Gives Tryz.prog 3 [.lit (.int .i64 x0), .lit (.int .i64 x1)] (.lit (.bool true)) := Law2.DecimalShortest_ok (DecimalShortest_eq x0 x1 hx1)
theorem lifted_decimalShortest (os : Os) (started : os.Started) (H : Type) (enc : TypeId × Value → H) :
    ReturnsInHanded {} Tryz.checked os 3 .any (fun w args => (Rows.decimalShortestSpec.pre enc Tryz.prog Tryz.f3 Rows.decimalShortestRow.domain false w args ∧ laidMetH Tryz.prog lays_decimalShortest w) ∧ sizedMet enc Tryz.prog Tryz.f3 (OpenSpec.ofChange Rows.decimalShortestSpec) false w args)
      (Rows.decimalShortestSpec.post enc Tryz.prog Tryz.f3 false true false false) := by
  refine returns_of_change_open (C := Tryz.checked) (X := fun w _ => laidMetH Tryz.prog lays_decimalShortest w) (fun _ _ _ hh h => h.of_heap hh) own_decimalShortest started (by kernel_rfl) Tryz.func3
    (ChangeSpec.witness_at (enc := enc) (C := Tryz.checked) (os := os) (X := fun w _ => laidMetH Tryz.prog lays_decimalShortest w) false (world_decimalShortest os) #[.int .i64 0, .int .i64 0] 8 (World.layVars_os _ _ _) (by kernel_rfl) (by kernel_rfl) (by kernel_rfl) (by kernel_rfl) (by kernel_rfl) (met_decimalShortest os _)) ?_
  intro W base args ds gs before hval0 hW hopen hX
  have hW' := hW
  obtain ⟨p, q, hA0, hV, rfl, _⟩ := hW
  have hA : DataW.TrodAll enc Tryz.prog W 0 (fun _ => true) true Tryz.f3.params.toList args.toList ds p := hA0
  rw [params_decimalShortest] at hA
  obtain ⟨v0, v1, d0, d1, p0, p1, rfl, rfl, rfl, h0, h1⟩ := trodAll_two hA
  obtain ⟨rfl, rfl⟩ : gs = [] ∧ q = [] := by
    cases gs with
    | nil => exact ⟨rfl, hV⟩
    | cons g r => exact absurd hV (by intro h; cases h)
  obtain ⟨x0, e0, _⟩ := open_int u3_decimalShortest (hval0 0 3 v0 (by rw [params_decimalShortest]; rfl) rfl) h0
  subst e0
  have k0 : -9223372036854775808 ≤ x0 ∧ x0 < 9223372036854775808 := by
    obtain ⟨fu, hh⟩ := h0
    obtain ⟨m, e, _, hs⟩ := DataW.trod_int u3_decimalShortest hh
    cases e
    unfold Lit.wf at hs
    simp only [Bool.and_eq_true, decide_eq_true_eq] at hs
    have e1 : (IntKind.max .i64 : Int) = 9223372036854775807 := rfl
    have e2 : (IntKind.min .i64 : Int) = -9223372036854775808 := rfl
    omega
  obtain ⟨x1, e1, _⟩ := open_int u3_decimalShortest (hval0 1 3 v1 (by rw [params_decimalShortest]; rfl) rfl) h1
  subst e1
  have k1 : -9223372036854775808 ≤ x1 ∧ x1 < 9223372036854775808 := by
    obtain ⟨fu, hh⟩ := h1
    obtain ⟨m, e, _, hs⟩ := DataW.trod_int u3_decimalShortest hh
    cases e
    unfold Lit.wf at hs
    simp only [Bool.and_eq_true, decide_eq_true_eq] at hs
    have e1 : (IntKind.max .i64 : Int) = 9223372036854775807 := rfl
    have e2 : (IntKind.min .i64 : Int) = -9223372036854775808 := rfl
    omega
  have espec : Rows.decimalShortestSpec.fn H ([d0, d1] ++ []) = { results := [.lit (.bool true)], args := [d0, d1] } := rfl
  refine (Gives.calls Tryz.func3 rfl (by kernel_rfl) (gives_decimalShortest x0 k0 x1 k1) W #[.int .i64 x0, .int .i64 x1] (know_laid hopen (tab_cells hX 2 (n := "internal/strconv.uint64pow10") (k := .u64) (zs := Lib.pow10Tab) (g := 2) (t := 207) (e := 87) (N := 20) rfl (by kernel_rfl) (by kernel_rfl) (by kernel_rfl) (by kernel_rfl) (by kernel_rfl) (by kernel_rfl)) (tab_cells hX 1 (n := "math/bits.deBruijn64tab") (k := .u8) (zs := Lib.deBruijn64tab.map fun n => ((n : Nat) : Int)) (g := 0) (t := 185) (e := 5) (N := 64) rfl (by kernel_rfl) (by kernel_rfl) (by kernel_rfl) (by kernel_rfl) (by kernel_rfl) (by kernel_rfl))) ⟨rfl, fun i hi => by
    match i, hi with
    | 0, _ => exact (.lit _ _)
    | 1, _ => exact (.lit _ _)⟩).mono fun e W' ⟨he, hk, hg, hs⟩ => ?_
  subst he
  have hlt := DataW.TrodAll.lt hA0
  refine ⟨_, rfl, _, _, _, [], p0 ++ p1, [], hW', ?_, ?_, ?_, ?_, fun h => by cases h⟩
  · rw [espec]; exact trodAll_mk1 (shut_bool bool_decimalShortest true)
  · rw [espec]
    exact trodAll_mk2 (WideElems.Trod_stays laidOut_decimalShortest read3_decimalShortest row3_decimalShortest h0 (fun x hx => by
      have hp := hlt x (by simp [hx])
      cases x with
      | cell b o => exact World.cell?_of_block (w := W) (hs b hp)
      | map b => exact hs b hp) (fun x hx => by simpa using hlt x (by simp [hx]))) (WideElems.Trod_stays laidOut_decimalShortest read3_decimalShortest row3_decimalShortest h1 (fun x hx => by
      have hp := hlt x (by simp [hx])
      cases x with
      | cell b o => exact World.cell?_of_block (w := W) (hs b hp)
      | map b => exact hs b hp) (fun x hx => by simpa using hlt x (by simp [hx])))
  · rw [espec]; rfl
  · refine ⟨hk.1, hk.2.1, fun i hi => ?_⟩
    have := hk.2.2 i hi
    rw [hs i hi]
    split <;> simp_all
theorem decimalShortest_holds : Rows.DecimalShortestSaid :=
  OpenClaim.holds_of_wide 3 Tryz.f3 rfl rfl rfl rfl rfl rfl rfl ⟨rfl, rfl, rfl, rfl, rfl⟩ rfl rfl rfl rfl rfl (by kernel_rfl) Tryz.func3 (by kernel_rfl)
    (of_decide_eq_true (by kernel_rfl)) (by unfold Func.isWrapper; rw [if_neg (of_decide_eq_false (by kernel_rfl))]; exact ⟨rfl, rfl⟩)
    (fun os started H enc _ => lifted_decimalShortest os started H enc)
theorem decimalShortest_card : Rows.DecimalShortestCardSaid :=
  Claim7.holds_tied_plain_at .later [] [.data, .data, .data, .data, .sentinel, .sentinel, .pinned] true (true, "d429bbc2e8e6bf5278ad4261b0617f2233cd2cd5b0553bd56e2f9892a2cd8e37") true
    decimalShortest_holds (fun _ h => by cases h) (by kernel_rfl) (fun _ h => by cases h) decimalShortest_row_tie rfl ⟨rfl, rfl⟩ (by kernel_rfl) rfl
    (fun f fn hf hfn => by
      obtain rfl : f = 3 := Option.some.inj ((show Tryz.prog.funcNamed "quadrat/quadratlaw02.DecimalShortest" = some 3 by kernel_rfl).symm.trans hf) |>.symm
      obtain rfl : fn = Tryz.f3 := (Option.some.inj (Tryz.func3.symm.trans hfn)).symm
      exact ⟨by kernel_rfl, fun j t ht => by
        rw [params_decimalShortest] at ht
        rcases j with _ | _ | j
        · obtain rfl : t = 3 := by simpa using ht.symm
          exact (show Tryz.prog.wantsStandIn 3 = false by kernel_rfl)
        · obtain rfl : t = 3 := by simpa using ht.symm
          exact (show Tryz.prog.wantsStandIn 3 = false by kernel_rfl)
        · simp at ht⟩)
    (by kernel_rfl)
end Go.Q
namespace Go.Proofs.YtmfhkipeapdfmaaGreatDoor
theorem decimalShortest_proved : Rows.DecimalShortestCardSaid := Go.Q.decimalShortest_card
end Go.Proofs.YtmfhkipeapdfmaaGreatDoor
#print axioms Go.Proofs.YtmfhkipeapdfmaaGreatDoor.decimalShortest_proved
