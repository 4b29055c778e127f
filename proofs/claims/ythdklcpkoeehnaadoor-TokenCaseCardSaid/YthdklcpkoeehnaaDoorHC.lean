/- For every input the law quadratlaw04.TokenCase answers true, and the input reads as it did. No conditions. -/
import Derived.Test.YthdklcpkoeehnaaDoorP9
import Derived.Test.YthdklcpkoeehnaaDoorRows
import Derived.Test.YthdklcpkoeehnaaDoorTie
import Derived.Test.YthdklcpkoeehnaaDoorCards
import Derived.ProofKit
import Derived.LaidHandle
import Derived.Lay
import Derived.SizedLaws
import Derived.Handed
import Derived.ChangeMaps5
namespace Go.Q
open Go Go.Proofs Go.RowKit Go.ChangeShapes Go.WideShapes Go.ChangeAt
open Go.Proofs.YthdklcpkoeehnaaDoor
set_option maxRecDepth 100000
set_option maxHeartbeats 4000000

theorem own_tokenCase : ownKnob Tryd.prog.godebug = none := by kernel_rfl
theorem params_tokenCase : Tryd.f5.params = #[9] := by kernel_rfl
theorem str_tokenCase : Tryd.prog.underlying 9 = some .string := by kernel_rfl
theorem bool_tokenCase : Tryd.prog.underlying 4 = some .bool := by kernel_rfl
abbrev lays_tokenCase : List (String × DataW Unit) := YthdklcpkoeehnaaDoor.Rows.tokenCaseRow.laid
noncomputable def world_tokenCase (os : Os) : World := (World.holding Tryd.prog os ⟨#[], #[], []⟩).layVars Tryd.prog lays_tokenCase
theorem met_tokenCase (os : Os) (args : Array Value) : laidMetH Tryd.prog lays_tokenCase ((world_tokenCase os).forCall (fun _ _ => 0) ⟨#[], args, []⟩).memory := by
  refine laidMetH_of_parts (laidMet_layVars (w0 := World.holding Tryd.prog os ⟨#[], #[], []⟩) (lays_tokenCase.map (·.1)) [] ?_ ?_ ?_ ?_) (by kernel_rfl)
  · rfl
  · kernel_rfl
  · kernel_rfl
  · exact LaidIn.none

/-- A contract, out of the framework: the machine's call. -/
theorem calls_tokenCase {P : Program} {f : FuncId} {fn : Func} {c : Code} {args : List AV} {v : Value} (hf : P.funcs[f]? = some fn) (hb : fn.body = some c) (hname : (fn.name == "runtime.NumGoroutine") = false) (h : Gives P f args (.lit v))
    (w : World) (vals : Array Value) (ha : ArgsRel (fun b => b < w.heap.size) w [] args vals) :
    Calls P f vals w fun e w' => e = .returned v ∧ w.keptBut w' (fun _ => False) ∧ w.heap.size ≤ w'.heap.size ∧ ∀ b, b < w.heap.size → w'.heap[b]? = w.heap[b]? := by
  have hH : RelH (fun b => b < w.heap.size) [] [] w := ⟨rfl, fun o ob x h => by simp at h, fun b hb => by obtain ⟨o, l, e, _⟩ := hb; simp [MM.loc] at e, fun o o' l l' e => by simp [MM.loc] at e, fun b hb => hb⟩
  have hno : ∀ b, ¬ MM.owns ([] : MM) b := fun b hb => by obtain ⟨o, l, e, _⟩ := hb; simp [MM.loc] at e
  rcases h _ [] w vals hH ha with ⟨_, h2⟩ | ⟨u, w', h1, _⟩
  · refine h2.mono ?_
    rintro e w' ⟨v', r, h', I', μ', rfl, ⟨rfl, rfl⟩, _, hr, S, _⟩
    obtain rfl := hr.lit_eq
    have hsame : ∀ b, b < w.heap.size → w'.heap[b]? = w.heap[b]? := fun b hb => S.same b hb (hno b)
    refine ⟨rfl, ⟨S.ext.1, S.ext.2, fun i hi => ?_⟩, S.grow, hsame⟩
    rw [hsame i hi]
    split <;> simp_all
  · exfalso
    unfold callFunc at h1
    simp only [Sem.run_bind, run_program, Result.andThen_ok, hf, hname, Bool.false_eq_true, if_false, hb, Option.isNone_some, Sem.run_pure] at h1
    cases h1

section
variable {H : Type} {enc : TypeId × Value → H} {w : World} {sp : Nat → Bool} {held : Bool} {base : Nat}
theorem open_str_tokenCase {r : Reach} {b0 : Nat} {v : Value} {d : DataW H} {ps : List MemPlace} (hval : Value.okWide Tryd.prog w r b0 9 v) (h : DataW.Trod enc Tryd.prog w base sp held 9 v d ps) : ∃ s : ByteArray, v = .string s ∧ d = .lit (.string s.data.toList) ∧ ps = [] ∧ s.size ≤ maxLen :=
  Go.ChangeMaps.open_string str_tokenCase hval h
theorem shut_str_tokenCase (s : ByteArray) (hs : s.size ≤ maxLen) : DataW.Trod enc Tryd.prog w base sp held 9 (.string s) (.lit (.string s.data.toList)) [] :=
  Go.ChangeMaps.shut_string str_tokenCase hs
end

theorem gives_tokenCase (s0 : ByteArray) : Gives Tryd.prog 5 [.lit (.string s0)] (.lit (.bool true)) := Law4.TokenCase_ok (TokenCase_eq s0)

theorem lifted_tokenCase (os : Os) (started : os.Started) (H : Type) (enc : TypeId × Value → H) :
    ReturnsInHanded {} Tryd.checked os 5 .any (fun w args => (Rows.tokenCaseSpec.pre enc Tryd.prog Tryd.f5 Rows.tokenCaseRow.domain false w args ∧ laidMetH Tryd.prog lays_tokenCase w) ∧ sizedMet enc Tryd.prog Tryd.f5 (OpenSpec.ofChange Rows.tokenCaseSpec) false w args)
      (Rows.tokenCaseSpec.post enc Tryd.prog Tryd.f5 false true false false) := by
  refine returnsInHanded_of_change_and (C := Tryd.checked) (X := fun w _ => laidMetH Tryd.prog lays_tokenCase w) (fun _ _ _ hh h => h.of_heap hh) own_tokenCase started (by kernel_rfl) Tryd.func5
    (ChangeSpec.witness_at (enc := enc) (C := Tryd.checked) (os := os) (X := fun w _ => laidMetH Tryd.prog lays_tokenCase w) false (world_tokenCase os) #[.string ⟨#[]⟩] 8 (World.layVars_os _ _ _) (by kernel_rfl) (by kernel_rfl) (by kernel_rfl) (by kernel_rfl) (by kernel_rfl) (met_tokenCase os _)) ?_
  intro W base args ds gs before hval0 hW _ _ hL _
  have hW' := hW
  obtain ⟨p, q, hA0, hV, rfl, _⟩ := hW
  have hA : DataW.TrodAll enc Tryd.prog W 0 (fun _ => true) true Tryd.f5.params.toList args.toList ds p := hA0
  rw [params_tokenCase] at hA
  obtain ⟨v0, d0, rfl, rfl, h0⟩ := trodAll_one hA
  obtain ⟨rfl, rfl⟩ : gs = [] ∧ q = [] := by
    cases gs with
    | nil => exact ⟨rfl, hV⟩
    | cons g r => exact absurd hV (by intro h; cases h)
  obtain ⟨x0, rfl, rfl, rfl, hx0⟩ := open_str_tokenCase (hval0 0 9 v0 (by rw [params_tokenCase]; rfl) rfl) h0
  have e1 : Rows.tokenCaseSpec.fn H ([.lit (.string x0.data.toList)] ++ []) = { results := [.lit (.bool true)], args := [.lit (.string x0.data.toList)] } := rfl
  refine (calls_tokenCase Tryd.func5 rfl (by kernel_rfl) (gives_tokenCase x0) W #[.string x0] ⟨rfl, fun i hi => by
    match i, hi with
    | 0, _ => exact .lit _ _⟩).mono fun e W' ⟨he, hk, hg, hs⟩ => ?_
  subst he
  refine ⟨_, rfl, _, _, _, [], [], [], hW', ?_, ?_, ?_, ?_, fun h => by cases h⟩
  · rw [e1]; exact trodAll_mk1 (shut_bool bool_tokenCase true)
  · rw [e1]
    exact trodAll_mk1 (shut_str_tokenCase x0 hx0)
  · rw [e1]; rfl
  · refine ⟨hk.1, hk.2.1, fun i hi => ?_⟩
    have := hk.2.2 i hi
    rw [hs i hi]
    split <;> simp_all

theorem tokenCase_holds : Rows.TokenCaseSaid :=
  OpenClaim.holds_of_wide 5 Tryd.f5 rfl rfl rfl rfl rfl rfl rfl ⟨rfl, rfl, rfl, rfl, rfl⟩ rfl rfl rfl rfl rfl (by kernel_rfl) Tryd.func5 (by kernel_rfl)
    (of_decide_eq_true (by kernel_rfl)) (by unfold Func.isWrapper; rw [if_neg (of_decide_eq_false (by kernel_rfl))]; exact ⟨rfl, rfl⟩)
    (fun os started H enc _ => lifted_tokenCase os started H enc)

theorem tokenCase_card : Rows.TokenCaseCardSaid :=
  Claim7.holds_tied_plain_at .later [] [.data, .data, .data, .data, .sentinel, .sentinel, .pinned] true (true, "ca2674de3265fb640e4b8592fb1aefc1d351eb04f6ecb6631ddc181c7c22d74c") true
    tokenCase_holds (fun _ h => by cases h) (by kernel_rfl) (fun _ h => by cases h) tokenCase_row_tie rfl ⟨rfl, rfl⟩ (by kernel_rfl) rfl
    (fun f fn hf hfn => by
      obtain rfl : f = 5 := Option.some.inj ((show Tryd.prog.funcNamed "quadrat/quadratlaw04.TokenCase" = some 5 by kernel_rfl).symm.trans hf) |>.symm
      obtain rfl : fn = Tryd.f5 := (Option.some.inj (Tryd.func5.symm.trans hfn)).symm
      exact ⟨by kernel_rfl, fun j t ht => by
        rw [params_tokenCase] at ht
        have h3 : t = 9 := by
          rcases j with _ | j
          · simpa using ht.symm
          · simp at ht
        subst h3
        exact (show Tryd.prog.wantsStandIn 9 = false by kernel_rfl)⟩)
    (by kernel_rfl)
end Go.Q
namespace Go.Proofs.YthdklcpkoeehnaaDoor
theorem tokenCase_proved : Rows.TokenCaseCardSaid := Go.Q.tokenCase_card
end Go.Proofs.YthdklcpkoeehnaaDoor
#print axioms Go.Proofs.YthdklcpkoeehnaaDoor.tokenCase_proved
