/- For every input the law quadratlaw04.TokenScans answers true, and the input reads as it did. No conditions. -/
import Derived.Test.YthdklcpkoeehnaaDoorR6
import Derived.Test.YthdklcpkoeehnaaDoorRows
import Derived.Test.YthdklcpkoeehnaaDoorTie
import Derived.Test.YthdklcpkoeehnaaDoorCards
import Derived.ProofKit
import Derived.LaidHandle
import Derived.Lay
import Derived.SizedLaws
import Derived.Handed
import Derived.ChangeMaps5
namespace Go.Q
open Go Go.Proofs Go.RowKit Go.ChangeShapes Go.WideShapes Go.ChangeAt
open Go.Proofs.YthdklcpkoeehnaaDoor
set_option maxRecDepth 100000
set_option maxHeartbeats 4000000

theorem own_tokenScans : ownKnob Tryd.prog.godebug = none := by kernel_rfl
theorem params_tokenScans : Tryd.f3.params = #[9] := by kernel_rfl
theorem str_tokenScans : Tryd.prog.underlying 9 = some .string := by kernel_rfl
theorem bool_tokenScans : Tryd.prog.underlying 4 = some .bool := by kernel_rfl
abbrev lays_tokenScans : List (String × DataW Unit) := YthdklcpkoeehnaaDoor.Rows.tokenScansRow.laid
noncomputable def world_tokenScans (os : Os) : World := (World.holding Tryd.prog os ⟨#[], #[], []⟩).layVars Tryd.prog lays_tokenScans
theorem met_tokenScans (os : Os) (args : Array Value) : laidMetH Tryd.prog lays_tokenScans ((world_tokenScans os).forCall (fun _ _ => 0) ⟨#[], args, []⟩).memory := by
  refine laidMetH_of_parts (laidMet_layVars (w0 := World.holding Tryd.prog os ⟨#[], #[], []⟩) (lays_tokenScans.map (·.1)) [] ?_ ?_ ?_ ?_) (by kernel_rfl)
  · rfl
  · kernel_rfl
  · kernel_rfl
  · exact LaidIn.none

/-- A contract, out of the framework: the machine's call. -/
theorem calls_tokenScans {P : Program} {f : FuncId} {fn : Func} {c : Code} {args : List AV} {v : Value} (hf : P.funcs[f]? = some fn) (hb : fn.body = some c) (hname : (fn.name == "runtime.NumGoroutine") = false) (h : Gives P f args (.lit v))
    (w : World) (vals : Array Value) (ha : ArgsRel (fun b => b < w.heap.size) w [] args vals) :
    Calls P f vals w fun e w' => e = .returned v ∧ w.keptBut w' (fun _ => False) ∧ w.heap.size ≤ w'.heap.size ∧ ∀ b, b < w.heap.size → w'.heap[b]? = w.heap[b]? := by
  have hH : RelH (fun b => b < w.heap.size) [] [] w := ⟨rfl, fun o ob x h => by simp at h, fun b hb => by obtain ⟨o, l, e, _⟩ := hb; simp [MM.loc] at e, fun o o' l l' e => by simp [MM.loc] at e, fun b hb => hb⟩
  have hno : ∀ b, ¬ MM.owns ([] : MM) b := fun b hb => by obtain ⟨o, l, e, _⟩ := hb; simp [MM.loc] at e
  rcases h _ [] w vals hH ha with ⟨_, h2⟩ | ⟨u, w', h1, _⟩
  · refine h2.mono ?_
    rintro e w' ⟨v', r, h', I', μ', rfl, ⟨rfl, rfl⟩, _, hr, S, _⟩
    obtain rfl := hr.lit_eq
    have hsame : ∀ b, b < w.heap.size → w'.heap[b]? = w.heap[b]? := fun b hb => S.same b hb (hno b)
    refine ⟨rfl, ⟨S.ext.1, S.ext.2, fun i hi => ?_⟩, S.grow, hsame⟩
    rw [hsame i hi]
    split <;> simp_all
  · exfalso
    unfold callFunc at h1
    simp only [Sem.run_bind, run_program, Result.andThen_ok, hf, hname, Bool.false_eq_true, if_false, hb, Option.isNone_some, Sem.run_pure] at h1
    cases h1

section
variable {H : Type} {enc : TypeId × Value → H} {w : World} {sp : Nat → Bool} {held : Bool} {base : Nat}
theorem open_str_tokenScans {r : Reach} {b0 : Nat} {v : Value} {d : DataW H} {ps : List MemPlace} (hval : Value.okWide Tryd.prog w r b0 9 v) (h : DataW.Trod enc Tryd.prog w base sp held 9 v d ps) : ∃ s : ByteArray, v = .string s ∧ d = .lit (.string s.data.toList) ∧ ps = [] ∧ s.size ≤ maxLen :=
  Go.ChangeMaps.open_string str_tokenScans hval h
theorem shut_str_tokenScans (s : ByteArray) (hs : s.size ≤ maxLen) : DataW.Trod enc Tryd.prog w base sp held 9 (.string s) (.lit (.string s.data.toList)) [] :=
  Go.ChangeMaps.shut_string str_tokenScans hs
end

theorem gives_tokenScans (s0 : ByteArray) : Gives Tryd.prog 3 [.lit (.string s0)] (.lit (.bool true)) := Law4.TokenScans_ok (TokenScans_eq s0)

theorem lifted_tokenScans (os : Os) (started : os.Started) (H : Type) (enc : TypeId × Value → H) :
    ReturnsInHanded {} Tryd.checked os 3 .any (fun w args => (Rows.tokenScansSpec.pre enc Tryd.prog Tryd.f3 Rows.tokenScansRow.domain false w args ∧ laidMetH Tryd.prog lays_tokenScans w) ∧ sizedMet enc Tryd.prog Tryd.f3 (OpenSpec.ofChange Rows.tokenScansSpec) false w args)
      (Rows.tokenScansSpec.post enc Tryd.prog Tryd.f3 false true false false) := by
  refine returnsInHanded_of_change_and (C := Tryd.checked) (X := fun w _ => laidMetH Tryd.prog lays_tokenScans w) (fun _ _ _ hh h => h.of_heap hh) own_tokenScans started (by kernel_rfl) Tryd.func3
    (ChangeSpec.witness_at (enc := enc) (C := Tryd.checked) (os := os) (X := fun w _ => laidMetH Tryd.prog lays_tokenScans w) false (world_tokenScans os) #[.string ⟨#[]⟩] 8 (World.layVars_os _ _ _) (by kernel_rfl) (by kernel_rfl) (by kernel_rfl) (by kernel_rfl) (by kernel_rfl) (met_tokenScans os _)) ?_
  intro W base args ds gs before hval0 hW _ _ hL _
  have hW' := hW
  obtain ⟨p, q, hA0, hV, rfl, _⟩ := hW
  have hA : DataW.TrodAll enc Tryd.prog W 0 (fun _ => true) true Tryd.f3.params.toList args.toList ds p := hA0
  rw [params_tokenScans] at hA
  obtain ⟨v0, d0, rfl, rfl, h0⟩ := trodAll_one hA
  obtain ⟨rfl, rfl⟩ : gs = [] ∧ q = [] := by
    cases gs with
    | nil => exact ⟨rfl, hV⟩
    | cons g r => exact absurd hV (by intro h; cases h)
  obtain ⟨x0, rfl, rfl, rfl, hx0⟩ := open_str_tokenScans (hval0 0 9 v0 (by rw [params_tokenScans]; rfl) rfl) h0
  have e1 : Rows.tokenScansSpec.fn H ([.lit (.string x0.data.toList)] ++ []) = { results := [.lit (.bool true)], args := [.lit (.string x0.data.toList)] } := rfl
  refine (calls_tokenScans Tryd.func3 rfl (by kernel_rfl) (gives_tokenScans x0) W #[.string x0] ⟨rfl, fun i hi => by
    match i, hi with
    | 0, _ => exact .lit _ _⟩).mono fun e W' ⟨he, hk, hg, hs⟩ => ?_
  subst he
  refine ⟨_, rfl, _, _, _, [], [], [], hW', ?_, ?_, ?_, ?_, fun h => by cases h⟩
  · rw [e1]; exact trodAll_mk1 (shut_bool bool_tokenScans true)
  · rw [e1]
    exact trodAll_mk1 (shut_str_tokenScans x0 hx0)
  · rw [e1]; rfl
  · refine ⟨hk.1, hk.2.1, fun i hi => ?_⟩
    have := hk.2.2 i hi
    rw [hs i hi]
    split <;> simp_all

theorem tokenScans_holds : Rows.TokenScansSaid :=
  OpenClaim.holds_of_wide 3 Tryd.f3 rfl rfl rfl rfl rfl rfl rfl ⟨rfl, rfl, rfl, rfl, rfl⟩ rfl rfl rfl rfl rfl (by kernel_rfl) Tryd.func3 (by kernel_rfl)
    (of_decide_eq_true (by kernel_rfl)) (by unfold Func.isWrapper; rw [if_neg (of_decide_eq_false (by kernel_rfl))]; exact ⟨rfl, rfl⟩)
    (fun os started H enc _ => lifted_tokenScans os started H enc)

theorem tokenScans_card : Rows.TokenScansCardSaid :=
  Claim7.holds_tied_plain_at .later [] [.data, .data, .data, .data, .sentinel, .sentinel, .pinned] true (true, "ca2674de3265fb640e4b8592fb1aefc1d351eb04f6ecb6631ddc181c7c22d74c") true
    tokenScans_holds (fun _ h => by cases h) (by kernel_rfl) (fun _ h => by cases h) tokenScans_row_tie rfl ⟨rfl, rfl⟩ (by kernel_rfl) rfl
    (fun f fn hf hfn => by
      obtain rfl : f = 3 := Option.some.inj ((show Tryd.prog.funcNamed "quadrat/quadratlaw04.TokenScans" = some 3 by kernel_rfl).symm.trans hf) |>.symm
      obtain rfl : fn = Tryd.f3 := (Option.some.inj (Tryd.func3.symm.trans hfn)).symm
      exact ⟨by kernel_rfl, fun j t ht => by
        rw [params_tokenScans] at ht
        have h3 : t = 9 := by
          rcases j with _ | j
          · simpa using ht.symm
          · simp at ht
        subst h3
        exact (show Tryd.prog.wantsStandIn 9 = false by kernel_rfl)⟩)
    (by kernel_rfl)
end Go.Q
namespace Go.Proofs.YthdklcpkoeehnaaDoor
theorem tokenScans_proved : Rows.TokenScansCardSaid := Go.Q.tokenScans_card
end Go.Proofs.YthdklcpkoeehnaaDoor
#print axioms Go.Proofs.YthdklcpkoeehnaaDoor.tokenScans_proved
