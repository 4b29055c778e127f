import Derived.Test.YtmfhkipeapdfmaaGreatDoorED4
import Derived.Test.YtmfhkipeapdfmaaGreatDoorDKZ
import Derived.Test.YtmfhkipeapdfmaaGreatDoorRows
import Derived.Test.YtmfhkipeapdfmaaGreatDoorTie
import Derived.Test.YtmfhkipeapdfmaaGreatDoorCards
import Derived.Test.YtmfhkipeapdfmaaGreatDoorZR
namespace Go.Q
open Go Go.Proofs Go.RowKit Go.ChangeShapes Go.WideShapes Go.ChangeAt
open Go.Proofs.YtmfhkipeapdfmaaGreatDoor
set_option maxRecDepth 100000
set_option maxHeartbeats 4000000
theorem own_decimalPrints : ownKnob Tryz.prog.godebug = none := by kernel_rfl
theorem laidOut_decimalPrints : laidOutB Tryz.prog = true := by kernel_rfl
theorem params_decimalPrints : Tryz.f10.params = #[38, 3, 3] := by kernel_rfl
theorem bool_decimalPrints : Tryz.prog.underlying 4 = some .bool := by kernel_rfl
theorem read38_decimalPrints : Tryz.prog.readableRec 38 = true := by kernel_rfl
theorem row38_decimalPrints : 38 < Tryz.prog.types.size := by rw [show Tryz.prog.types.size = 241 by kernel_rfl]; decide
theorem s38_decimalPrints : Tryz.prog.underlying 38 = some (.struct #[{ name := "Kind", type := 3, offset := 0, embedded := false, tag := "", pkgPath := "", byteOffset := 0 }, { name := "Mode", type := 3, offset := 1, embedded := false, tag := "", pkgPath := "", byteOffset := 8 }, { name := "Bits", type := 3, offset := 2, embedded := false, tag := "", pkgPath := "", byteOffset := 16 }]) := by kernel_rfl
theorem c38_decimalPrints : Tryz.prog.cellsOf 38 = 3 := by kernel_rfl
theorem u3_decimalPrints : Tryz.prog.underlying 3 = some (.int .i64) := by kernel_rfl
theorem c3_decimalPrints : Tryz.prog.cellsOf 3 = 1 := by kernel_rfl
def Pred38_decimalPrints (x : quadratlaw02.Float) : Prop := (-9223372036854775808 ≤ x.Kind ∧ x.Kind < 9223372036854775808) ∧ (-9223372036854775808 ≤ x.Mode ∧ x.Mode < 9223372036854775808) ∧ (-9223372036854775808 ≤ x.Bits ∧ x.Bits < 9223372036854775808)
theorem opn38_decimalPrints {H : Type} (enc : TypeId × Value → H) (w : World) (sp : Nat → Bool) (held : Bool) : ∀ f, Opn Tryz.prog enc w sp held 38 (fun a => ∃ x : quadratlaw02.Float, a = x.enc ∧ Pred38_decimalPrints x) f
  | 0 => Opn.zero
  | f + 1 => by
    refine (Opn.struct (fs := #[{ name := "Kind", type := 3, offset := 0, embedded := false, tag := "", pkgPath := "", byteOffset := 0 }, { name := "Mode", type := 3, offset := 1, embedded := false, tag := "", pkgPath := "", byteOffset := 8 }, { name := "Bits", type := 3, offset := 2, embedded := false, tag := "", pkgPath := "", byteOffset := 16 }]) (As := [(fun a => ∃ n : Int, a = eI .i64 n ∧ -9223372036854775808 ≤ n ∧ n < 9223372036854775808), (fun a => ∃ n : Int, a = eI .i64 n ∧ -9223372036854775808 ≤ n ∧ n < 9223372036854775808), (fun a => ∃ n : Int, a = eI .i64 n ∧ -9223372036854775808 ≤ n ∧ n < 9223372036854775808)]) s38_decimalPrints c38_decimalPrints rfl (fun i fd A hf hA => ?_)).imp ?_
    · match i, hf, hA with
      | 0, hf, hA => cases Option.some.inj hf; cases Option.some.inj hA; exact ⟨rfl, c3_decimalPrints, by rintro _ ⟨_, rfl, _⟩; rfl, Opn.i64 u3_decimalPrints f⟩
      | 1, hf, hA => cases Option.some.inj hf; cases Option.some.inj hA; exact ⟨rfl, c3_decimalPrints, by rintro _ ⟨_, rfl, _⟩; rfl, Opn.i64 u3_decimalPrints f⟩
      | 2, hf, hA => cases Option.some.inj hf; cases Option.some.inj hA; exact ⟨rfl, c3_decimalPrints, by rintro _ ⟨_, rfl, _⟩; rfl, Opn.i64 u3_decimalPrints f⟩
      | j + 3, hf, _ => simp at hf
    · rintro _ ⟨ls, rfl, hl, h⟩
      match ls, hl with
      | [a0, a1, a2], _ =>
        obtain ⟨x0, rfl, h0⟩ := h 0 _ a0 rfl rfl
        obtain ⟨x1, rfl, h1⟩ := h 1 _ a1 rfl rfl
        obtain ⟨x2, rfl, h2⟩ := h 2 _ a2 rfl rfl
        exact ⟨⟨x0, x1, x2⟩, rfl, h0, h1, h2⟩
theorem read3_decimalPrints : Tryz.prog.readableRec 3 = true := by kernel_rfl
theorem row3_decimalPrints : 3 < Tryz.prog.types.size := by rw [show Tryz.prog.types.size = 241 by kernel_rfl]; decide
abbrev lays_decimalPrints : List (String × DataW Unit) := YtmfhkipeapdfmaaGreatDoor.Rows.decimalPrintsRow.laid
noncomputable def world_decimalPrints (os : Os) : World := (World.holding Tryz.prog os ⟨#[], #[], []⟩).layVars Tryz.prog lays_decimalPrints
theorem met_decimalPrints (os : Os) (args : Array Value) : laidMetH Tryz.prog lays_decimalPrints ((world_decimalPrints os).forCall (fun _ _ => 0) ⟨#[], args, []⟩).memory := by
  refine laidMetH_of_parts (laidMet_layVars (w0 := World.holding Tryz.prog os ⟨#[], #[], []⟩) (lays_decimalPrints.map (·.1)) [] ?_ ?_ ?_ ?_) (by kernel_rfl)
  · rfl
  · kernel_rfl
  · kernel_rfl
  · exact LaidIn.none
theorem gives_decimalPrints (x0 : quadratlaw02.Float) (hx0 : Pred38_decimalPrints x0) (x1 : Int) (hx1 : -9223372036854775808 ≤ x1 ∧ x1 < 9223372036854775808) (x2 : Int) (hx2 : -9223372036854775808 ≤ x2 ∧ x2 < 9223372036854775808) : Gives Tryz.prog 10 [quadratlaw02.Float.enc x0, .lit (.int .i64 x1), .lit (.int .i64 x2)] (.lit (.bool true)) := Law2.DecimalPrints_ok (DecimalPrints_eq x0 x1 x2 hx0.2.2)
theorem lifted_decimalPrints (os : Os) (started : os.Started) (H : Type) (enc : TypeId × Value → H) :
    ReturnsInHanded {} Tryz.checked os 10 .any (fun w args => (Rows.decimalPrintsSpec.pre enc Tryz.prog Tryz.f10 Rows.decimalPrintsRow.domain false w args ∧ laidMetH Tryz.prog lays_decimalPrints w) ∧ sizedMet enc Tryz.prog Tryz.f10 (OpenSpec.ofChange Rows.decimalPrintsSpec) false w args)
      (Rows.decimalPrintsSpec.post enc Tryz.prog Tryz.f10 false true false false) := by
  refine returns_of_change_open (C := Tryz.checked) (X := fun w _ => laidMetH Tryz.prog lays_decimalPrints w) (fun _ _ _ hh h => h.of_heap hh) own_decimalPrints started (by kernel_rfl) Tryz.func10
    (ChangeSpec.witness_at (enc := enc) (C := Tryz.checked) (os := os) (X := fun w _ => laidMetH Tryz.prog lays_decimalPrints w) false (world_decimalPrints os) #[.agg #[.int .i64 0, .int .i64 0, .int .i64 0], .int .i64 0, .int .i64 0] 8 (World.layVars_os _ _ _) (by kernel_rfl) (by kernel_rfl) (by kernel_rfl) (by kernel_rfl) (by kernel_rfl) (met_decimalPrints os _)) ?_
  intro W base args ds gs before hval0 hW hopen hX
  have hW' := hW
  obtain ⟨p, q, hA0, hV, rfl, _⟩ := hW
  have hA : DataW.TrodAll enc Tryz.prog W 0 (fun _ => true) true Tryz.f10.params.toList args.toList ds p := hA0
  rw [params_decimalPrints] at hA
  obtain ⟨v0, v1, v2, d0, d1, d2, p0, p1, p2, rfl, rfl, rfl, h0, h1, h2⟩ := trodAll_three hA
  obtain ⟨rfl, rfl⟩ : gs = [] ∧ q = [] := by
    cases gs with
    | nil => exact ⟨rfl, hV⟩
    | cons g r => exact absurd hV (by intro h; cases h)
  obtain ⟨_, ⟨x0, rfl, k0⟩, r0⟩ := Opn.arg_struct s38_decimalPrints (opn38_decimalPrints enc W (fun _ => true) true) (by rintro _ ⟨_, rfl, _⟩; exact ⟨_, rfl⟩) (hval0 0 38 v0 (by rw [params_decimalPrints]; rfl) rfl) h0
  obtain ⟨x1, e1, _⟩ := open_int u3_decimalPrints (hval0 1 3 v1 (by rw [params_decimalPrints]; rfl) rfl) h1
  subst e1
  have k1 : -9223372036854775808 ≤ x1 ∧ x1 < 9223372036854775808 := by
    obtain ⟨fu, hh⟩ := h1
    obtain ⟨m, e, _, hs⟩ := DataW.trod_int u3_decimalPrints hh
    cases e
    unfold Lit.wf at hs
    simp only [Bool.and_eq_true, decide_eq_true_eq] at hs
    have e1 : (IntKind.max .i64 : Int) = 9223372036854775807 := rfl
    have e2 : (IntKind.min .i64 : Int) = -9223372036854775808 := rfl
    omega
  obtain ⟨x2, e2, _⟩ := open_int u3_decimalPrints (hval0 2 3 v2 (by rw [params_decimalPrints]; rfl) rfl) h2
  subst e2
  have k2 : -9223372036854775808 ≤ x2 ∧ x2 < 9223372036854775808 := by
    obtain ⟨fu, hh⟩ := h2
    obtain ⟨m, e, _, hs⟩ := DataW.trod_int u3_decimalPrints hh
    cases e
    unfold Lit.wf at hs
    simp only [Bool.and_eq_true, decide_eq_true_eq] at hs
    have e1 : (IntKind.max .i64 : Int) = 9223372036854775807 := rfl
    have e2 : (IntKind.min .i64 : Int) = -9223372036854775808 := rfl
    omega
  have espec : Rows.decimalPrintsSpec.fn H ([d0, d1, d2] ++ []) = { results := [.lit (.bool true)], args := [d0, d1, d2] } := rfl
  refine (Gives.calls Tryz.func10 rfl (by kernel_rfl) (gives_decimalPrints x0 k0 x1 k1 x2 k2) W #[v0, .int .i64 x1, .int .i64 x2] (know_laid hopen (tab_cells hX 2 (n := "internal/strconv.uint64pow10") (k := .u64) (zs := Lib.pow10Tab) (g := 2) (t := 207) (e := 87) (N := 20) rfl (by kernel_rfl) (by kernel_rfl) (by kernel_rfl) (by kernel_rfl) (by kernel_rfl) (by kernel_rfl)) (tab_cells hX 1 (n := "math/bits.deBruijn64tab") (k := .u8) (zs := Lib.deBruijn64tab.map fun n => ((n : Nat) : Int)) (g := 0) (t := 185) (e := 5) (N := 64) rfl (by kernel_rfl) (by kernel_rfl) (by kernel_rfl) (by kernel_rfl) (by kernel_rfl) (by kernel_rfl))) ⟨rfl, fun i hi => by
    match i, hi with
    | 0, _ => exact r0
    | 1, _ => exact (.lit _ _)
    | 2, _ => exact (.lit _ _)⟩).mono fun e W' ⟨he, hk, hg, hs⟩ => ?_
  subst he
  have hlt := DataW.TrodAll.lt hA0
  refine ⟨_, rfl, _, _, _, [], p0 ++ (p1 ++ p2), [], hW', ?_, ?_, ?_, ?_, fun h => by cases h⟩
  · rw [espec]; exact trodAll_mk1 (shut_bool bool_decimalPrints true)
  · rw [espec]
    exact trodAll_mk3 (WideElems.Trod_stays laidOut_decimalPrints read38_decimalPrints row38_decimalPrints h0 (fun x hx => by
      have hp := hlt x (by simp [hx])
      cases x with
      | cell b o => exact World.cell?_of_block (w := W) (hs b hp)
      | map b => exact hs b hp) (fun x hx => by simpa using hlt x (by simp [hx]))) (WideElems.Trod_stays laidOut_decimalPrints read3_decimalPrints row3_decimalPrints h1 (fun x hx => by
      have hp := hlt x (by simp [hx])
      cases x with
      | cell b o => exact World.cell?_of_block (w := W) (hs b hp)
      | map b => exact hs b hp) (fun x hx => by simpa using hlt x (by simp [hx]))) (WideElems.Trod_stays laidOut_decimalPrints read3_decimalPrints row3_decimalPrints h2 (fun x hx => by
      have hp := hlt x (by simp [hx])
      cases x with
      | cell b o => exact World.cell?_of_block (w := W) (hs b hp)
      | map b => exact hs b hp) (fun x hx => by simpa using hlt x (by simp [hx])))
  · rw [espec]; rfl
  · refine ⟨hk.1, hk.2.1, fun i hi => ?_⟩
    have := hk.2.2 i hi
    rw [hs i hi]
    split <;> simp_all
theorem decimalPrints_holds : Rows.DecimalPrintsSaid :=
  OpenClaim.holds_of_wide 10 Tryz.f10 rfl rfl rfl rfl rfl rfl rfl ⟨rfl, rfl, rfl, rfl, rfl⟩ rfl rfl rfl rfl rfl (by kernel_rfl) Tryz.func10 (by kernel_rfl)
    (of_decide_eq_true (by kernel_rfl)) (by unfold Func.isWrapper; rw [if_neg (of_decide_eq_false (by kernel_rfl))]; exact ⟨rfl, rfl⟩)
    (fun os started H enc _ => lifted_decimalPrints os started H enc)
theorem decimalPrints_card : Rows.DecimalPrintsCardSaid :=
  Claim7.holds_tied_plain_at .later [] [.data, .data, .data, .data, .sentinel, .sentinel, .pinned] true (true, "d429bbc2e8e6bf5278ad4261b0617f2233cd2cd5b0553bd56e2f9892a2cd8e37") true
    decimalPrints_holds (fun _ h => by cases h) (by kernel_rfl) (fun _ h => by cases h) decimalPrints_row_tie rfl ⟨rfl, rfl⟩ (by kernel_rfl) rfl
    (fun f fn hf hfn => by
      obtain rfl : f = 10 := Option.some.inj ((show Tryz.prog.funcNamed "quadrat/quadratlaw02.DecimalPrints" = some 10 by kernel_rfl).symm.trans hf) |>.symm
      obtain rfl : fn = Tryz.f10 := (Option.some.inj (Tryz.func10.symm.trans hfn)).symm
      exact ⟨by kernel_rfl, fun j t ht => by
        rw [params_decimalPrints] at ht
        rcases j with _ | _ | _ | j
        · obtain rfl : t = 38 := by simpa using ht.symm
          exact (show Tryz.prog.wantsStandIn 38 = false by kernel_rfl)
        · obtain rfl : t = 3 := by simpa using ht.symm
          exact (show Tryz.prog.wantsStandIn 3 = false by kernel_rfl)
        · obtain rfl : t = 3 := by simpa using ht.symm
          exact (show Tryz.prog.wantsStandIn 3 = false by kernel_rfl)
        · simp at ht⟩)
    (by kernel_rfl)
end Go.Q
namespace Go.Proofs.YtmfhkipeapdfmaaGreatDoor
theorem decimalPrints_proved : Rows.DecimalPrintsCardSaid := Go.Q.decimalPrints_card
end Go.Proofs.YtmfhkipeapdfmaaGreatDoor
#print axioms Go.Proofs.YtmfhkipeapdfmaaGreatDoor.decimalPrints_proved
