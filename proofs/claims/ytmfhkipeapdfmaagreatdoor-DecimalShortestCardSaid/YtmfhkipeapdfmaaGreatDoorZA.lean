import Derived.Test.YtmfhkipeapdfmaaGreatDoorFD
import Derived.ProofKit
import Derived.LaidHandle
import Derived.Lay
import Derived.SizedLaws
import Derived.Handed
import Derived.ChangeMaps5
namespace Go.Q
open Go Go.RowKit Go.ChangeShapes Go.WideShapes
inductive LK where
 | s
 | i (k:IntKind)
 | b
section
variable {P:Program} {H:Type} {enc:TypeId × Value → H} {w:World} {base:Nat} {sp:Nat → Bool} {held:Bool}
end
theorem Gives.calls [KN : Know] {P : Program} {f : FuncId} {fn : Func} {c : Code} {args : List AV} {v : Value} (hf : P.funcs[f]? = some fn) (hb : fn.body = some c) (hname : (fn.name == "runtime.NumGoroutine") = false) (h : Gives P f args (.lit v))
  (w:World) (vals:Array Value) (hk:Knows (fun b=>b < w.heap.size) w) (ha:ArgsRel (fun b=>b < w.heap.size) w [] args vals) :
  Calls P f vals w fun e w'=>e = .returned v ∧ w.keptBut w' (fun _=>False) ∧ w.heap.size ≤ w'.heap.size ∧ ∀ b,b < w.heap.size → w'.heap[b]? = w.heap[b]?:=by
 have hH:RelH (fun b=>b < w.heap.size) [] [] w:=⟨rfl,fun o ob x h=>by simp at h,fun b hb=>by obtain ⟨o,l,e,_⟩:=hb; simp [MM.loc] at e,fun o o' l l' e=>by simp [MM.loc] at e,fun b hb=>hb,hk⟩
 have hno:∀ b,¬ MM.owns ([]:MM) b:=fun b hb=>by obtain ⟨o,l,e,_⟩:=hb; simp [MM.loc] at e
 rcases h _ [] w vals hH ha with ⟨_,h2⟩ | ⟨u,w',h1,_⟩
 ·refine h2.mono ?_
  rintro e w' ⟨v',r,h',I',μ',rfl,⟨rfl,rfl⟩,_,hr,S,_⟩
  obtain rfl:=hr.lit_eq
  have hsame:∀ b,b < w.heap.size → w'.heap[b]? = w.heap[b]?:=fun b hb=>S.same b hb (hno b)
  refine ⟨rfl,⟨S.ext.1,S.ext.2,fun i hi=>?_⟩,S.grow,hsame⟩
  rw [hsame i hi]
  split <;> simp_all
 ·exfalso
  unfold callFunc at h1
  simp only [Sem.run_bind,run_program,Result.andThen_ok,hf,hname,Bool.false_eq_true,if_false,hb,Option.isNone_some,Sem.run_pure] at h1
  cases h1
section
variable {H:Type} {enc:TypeId × Value → H}
theorem returns_of_change_open {a:Assume} {C:Checked} {os:Os} {f:FuncId} {fn:Func} {s:ChangeSpec} {conds:List PathCond} {apart fresh handsOn again:Bool} {X:World → Array Value → Prop}
  (hX:∀ (w w':World) (args:Array Value),w.heap = w'.heap → X w args → X w' args)
  (own:ownKnob C.prog.godebug = none) (started:os.Started) (noInit:C.prog.inits.idxOf? f = none) (hfn:C.prog.funcs[f]? = some fn)
  (witness:∃ (w:World) (tape:Tape) (i:Input),w.os = os ∧ (w.forCall tape i).Shaped C.prog ∧ i.vars = [] ∧ Input.okWide C.prog (w.forCall tape i) .any w.heap.size f i ∧
   ((s.pre enc C.prog fn conds apart (w.forCall tape i).memory i.args ∧ X (w.forCall tape i).memory i.args) ∧ sizedMet enc C.prog fn (OpenSpec.ofChange s) apart (w.forCall tape i).memory i.args) ∧ a.holds C.prog (lone (Frame.enter C.prog f i.args .normal) [] (w.forCall tape i)))
  (contract:∀ (W:World) (base:Nat) (args:Array Value) (ds gs:List (DataW H)) (before:List MemPlace),
   (∀ (j:Nat) t v,fn.params[j]? = some t → args[j]? = some v → Value.okWide C.prog W .any base t v) →
   DataW.Whole enc C.prog fn.params.toList s.vars apart W args.toList ds gs before → W.ShapedOpen C.prog → X W args →
   Calls C.prog f args W fun e W'=>∃ v,e = .returned v ∧ s.post enc C.prog fn apart fresh handsOn again W args v W') :
  ReturnsInHanded a C os f .any (fun w args=>(s.pre enc C.prog fn conds apart w args ∧ X w args) ∧ sizedMet enc C.prog fn (OpenSpec.ofChange s) apart w args) (s.post enc C.prog fn apart fresh handsOn again):=by
 refine returnsInHanded_of_calls own started noInit witness ?_
 intro w tape i _ hsh _ hok hpre _
 obtain ⟨_,_,_,fn',hfn',_,_,_,_,hval⟩:=hok
 obtain rfl:fn' = fn:=Option.some.inj (hfn'.symm.trans hfn)
 obtain ⟨⟨⟨ds,gs,before,hw,_⟩,hx⟩,_⟩:=hpre
 refine (contract (w.forCall tape i) w.heap.size i.args ds gs before hval (DataW.Whole.of_heap (w':=w.forCall tape i) (by rfl) hw) hsh (hX _ _ _ (by rfl) hx)).mono ?_
 rintro e W' ⟨v,rfl,hp⟩
 exact ChangeSpec.post_blind hp
end
end Go.Q
