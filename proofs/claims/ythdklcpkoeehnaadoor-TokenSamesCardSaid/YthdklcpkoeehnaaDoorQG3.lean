import Derived.Test.YthdklcpkoeehnaaDoorQG2
import Derived.Test.YthdklcpkoeehnaaDoorTie
namespace Go.Q
open Go Go.Proofs Go.RowKit Go.ChangeShapes Go.WideShapes Go.ChangeAt
open Go.Proofs.YthdklcpkoeehnaaDoor
set_option maxRecDepth 100000

/-- A contract, out of the framework: the machine's call. -/
theorem ACalls.calls {P : Program} {f : FuncId} {fn : Func} {c : Code} {args : List AV} {v : Value} (hf : P.funcs[f]? = some fn) (hb : fn.body = some c) (hname : (fn.name == "runtime.NumGoroutine") = false) (h : Gives P f args (.lit v))
    (w : World) (vals : Array Value) (ha : ArgsRel (fun b => b < w.heap.size) w [] args vals) :
    Calls P f vals w fun e w' => e = .returned v ∧ w.keptBut w' (fun _ => False) ∧ w.heap.size ≤ w'.heap.size ∧ ∀ b, b < w.heap.size → w'.heap[b]? = w.heap[b]? := by
  have hH : RelH (fun b => b < w.heap.size) [] [] w := ⟨rfl, fun o ob x h => by simp at h, fun b hb => by obtain ⟨o, l, e, _⟩ := hb; simp [MM.loc] at e, fun o o' l l' e => by simp [MM.loc] at e, fun b hb => hb⟩
  have hno : ∀ b, ¬ MM.owns ([] : MM) b := fun b hb => by obtain ⟨o, l, e, _⟩ := hb; simp [MM.loc] at e
  rcases h _ [] w vals hH ha with ⟨_, h2⟩ | ⟨u, w', h1, _⟩
  · refine h2.mono ?_
    rintro e w' ⟨v', r, h', I', μ', rfl, ⟨rfl, rfl⟩, _, hr, S, _⟩
    obtain rfl := hr.lit_eq
    have hsame : ∀ b, b < w.heap.size → w'.heap[b]? = w.heap[b]? := fun b hb => S.same b hb (hno b)
    refine ⟨rfl, ⟨S.ext.1, S.ext.2, fun i hi => ?_⟩, S.grow, hsame⟩
    rw [hsame i hi]
    split <;> simp_all
  · exfalso
    unfold callFunc at h1
    simp only [Sem.run_bind, run_program, Result.andThen_ok, hf, hname, Bool.false_eq_true, if_false, hb, Option.isNone_some, Sem.run_pure] at h1
    cases h1

theorem tryd_read : Tryd.prog.readableRec 23 = true := by kernel_rfl
theorem tryd_row : 23 < Tryd.prog.types.size := by rw [show Tryd.prog.types.size = 137 by kernel_rfl]; decide
theorem tryd_bool : Tryd.prog.underlying 4 = some .bool := by kernel_rfl
theorem tryd_result : Tryd.f4.resultTypes = #[4] := by kernel_rfl

theorem slice_cells {w : World} {base : Nat} {v : Value} (h : Value.okWide Tryd.prog w .any base 23 v) : v.cells.toList = [v] := by
  unfold Value.okWide at h
  rw [tryd_slice] at h
  simp only at h
  unfold Cell.okWide at h
  rw [tryd_slice] at h
  cases v <;> first | rfl | (exfalso; simp [Cell.ok, tryd_slice] at h)

theorem trod_kept {H : Type} {enc : TypeId × Value → H} {w w' : World} {v : Value} {d : DataW H} {ps : List MemPlace} (h : DataW.Trod enc Tryd.prog w 0 (fun _ => true) true 23 v d ps) (hlt : ∀ x ∈ ps, x.block < w.heap.size) (hs : ∀ b, b < w.heap.size → w'.heap[b]? = w.heap[b]?) :
    DataW.Trod enc Tryd.prog w' 0 (fun b => decide (b < w.heap.size)) true 23 v d ps :=
  WideElems.Trod_stays tryd_laidOut tryd_read tryd_row h (fun x hx => by
    have hp := hlt x hx
    cases x with
    | cell b o => exact World.cell?_of_block (w := w) (hs b hp)
    | map b => exact hs b hp) (fun x hx => by simpa using hlt x hx)

theorem lifted (os : Os) (started : os.Started) (H : Type) (enc : TypeId × Value → H) :
    ReturnsInHanded {} Tryd.checked os 4 .any (fun w args => (Rows.tokenSamesSpec.pre enc Tryd.prog Tryd.f4 Rows.tokenSamesRow.domain false w args ∧ laidMetH Tryd.prog lays w) ∧ sizedMet enc Tryd.prog Tryd.f4 (OpenSpec.ofChange Rows.tokenSamesSpec) false w args)
      (Rows.tokenSamesSpec.post enc Tryd.prog Tryd.f4 false true false false) := by
  refine returnsInHanded_of_change_and (C := Tryd.checked) (X := fun w _ => laidMetH Tryd.prog lays w) (fun _ _ _ hh h => h.of_heap hh) tryd_own started (by kernel_rfl) Tryd.func4
    (ChangeSpec.witness_at (enc := enc) (C := Tryd.checked) (os := os) (X := fun w _ => laidMetH Tryd.prog lays w) false (laidWorld os) #[.slice none 0 0, .slice none 0 0] 8 (World.layVars_os _ _ _) (by kernel_rfl) (by kernel_rfl) (by kernel_rfl) (by kernel_rfl) (by kernel_rfl) (laid_met os _)) ?_
  intro W base args ds gs before hval0 hW _ _ hL _
  have hW' := hW
  obtain ⟨p, q, hA0, hV, rfl, _⟩ := hW
  have hA : DataW.TrodAll enc Tryd.prog W 0 (fun _ => true) true Tryd.f4.params.toList args.toList ds p := hA0
  rw [tryd_params] at hA
  obtain ⟨v0, v1, d0, d1, p0, p1, rfl, rfl, rfl, h0, h1⟩ := trodAll_two hA
  obtain ⟨rfl, rfl⟩ : gs = [] ∧ q = [] := by
    cases gs with
    | nil => exact ⟨rfl, hV⟩
    | cons g r => exact absurd hV (by intro h; cases h)
  obtain ⟨l, hl, r0⟩ := open_toks h0 (slice_cells (hval0 0 23 v0 (by rw [tryd_params]; rfl) rfl))
  obtain ⟨m, hm, r1⟩ := open_toks h1 (slice_cells (hval0 1 23 v1 (by rw [tryd_params]; rfl) rfl))
  have e1 : Rows.tokenSamesSpec.fn H ([d0, d1] ++ []) = { results := [.lit (.bool true)], args := [d0, d1] } := rfl
  refine (ACalls.calls Tryd.func4 rfl (by kernel_rfl) (tokenSames_ok l m hl hm) W #[v0, v1] ⟨rfl, fun i hi => by
    match i, hi with
    | 0, _ => exact r0
    | 1, _ => exact r1⟩).mono fun e W' ⟨he, hk, hg, hs⟩ => ?_
  subst he
  have hlt := DataW.TrodAll.lt hA0
  refine ⟨_, rfl, _, _, _, [], p0 ++ p1, [], hW', ?_, ?_, ?_, ?_, fun h => by cases h⟩
  · rw [e1]; exact trodAll_mk1 (shut_bool tryd_bool true)
  · rw [e1]
    exact trodAll_mk2 (trod_kept h0 (fun x hx => hlt x (by simp [hx])) hs) (trod_kept h1 (fun x hx => hlt x (by simp [hx])) hs)
  · rw [e1]; rfl
  · refine ⟨hk.1, hk.2.1, fun i hi => ?_⟩
    have := hk.2.2 i hi
    rw [hs i hi]
    split <;> simp_all

theorem tokenSames_holds : Rows.TokenSamesSaid :=
  OpenClaim.holds_of_wide 4 Tryd.f4 rfl rfl rfl rfl rfl rfl rfl ⟨rfl, rfl, rfl, rfl, rfl⟩ rfl rfl rfl rfl rfl (by kernel_rfl) Tryd.func4 (by kernel_rfl)
    (of_decide_eq_true (by kernel_rfl)) (by unfold Func.isWrapper; rw [if_neg (of_decide_eq_false (by kernel_rfl))]; exact ⟨rfl, rfl⟩)
    (fun os started H enc _ => lifted os started H enc)
end Go.Q
