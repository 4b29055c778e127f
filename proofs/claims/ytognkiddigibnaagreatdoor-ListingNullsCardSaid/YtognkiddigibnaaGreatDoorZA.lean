import Derived.Test.YtognkiddigibnaaGreatDoorFD
import Derived.ProofKit
import Derived.LaidHandle
import Derived.Lay
import Derived.SizedLaws
import Derived.Handed
import Derived.ChangeMaps5
namespace Go.Q
open Go Go.RowKit Go.ChangeShapes Go.WideShapes
inductive LK where
 | s
 | i (k:IntKind)
 | b
def LK.Is (P:Program) (t:TypeId):LK → Prop
 | .s=>P.underlying t = some .string
 | .i k=>P.underlying t = some (.int k)
 | .b=>P.underlying t = some .bool
def LK.Fits:LK → Value → Prop
 | .s,v=>∃ s,v = .string s
 | .i k,v=>∃ n,v = .int k n
 | .b,v=>∃ c,v = .bool c
section
variable {P:Program} {H:Type} {enc:TypeId × Value → H} {w:World} {base:Nat} {sp:Nat → Bool} {held:Bool}
theorem trod_leaf {x:LK} {t:TypeId} (hx:x.Is P t) {fuel:Nat} {cs:List Value} {y:DataW H × List MemPlace} (h:DataW.trod enc P w base sp held fuel t cs = some y):∃ v,cs = [v] ∧ x.Fits v:=by
 cases fuel with
 | zero=>simp [DataW.trod] at h
 | succ n =>
  unfold DataW.trod at h
  cases x with
  | s=>rw [show P.underlying t = some .string from hx] at h; split at h <;> simp_all [LK.Fits]
  | i k=>rw [show P.underlying t = some (.int k) from hx] at h; split at h <;> simp_all [LK.Fits]
  | b=>rw [show P.underlying t = some .bool from hx] at h; split at h <;> simp_all [LK.Fits]
structure FlatT (P:Program) (t:TypeId) (xs:List LK) (fs:Array Field):Prop where
 struct:P.underlying t = some (.struct fs)
 cells:P.cellsOf t = xs.length
 size:fs.size = xs.length
 field:∀ (i:Nat) (f:Field) (x:LK),fs[i]? = some f → xs[i]? = some x → x.Is P f.type ∧ f.offset = i ∧ P.cellsOf f.type = 1
def FitsAll (xs:List LK) (r:List Value):Prop:=r.length = xs.length ∧ ∀ (i:Nat) (x:LK) (v:Value),xs[i]? = some x → r[i]? = some v → x.Fits v
theorem trod_flat {t:TypeId} {xs:List LK} {fs:Array Field} (F:FlatT P t xs fs) {fuel:Nat} {cs:List Value} {y:DataW H × List MemPlace} (h:DataW.trod enc P w base sp held fuel t cs = some y):FitsAll xs cs:=by
 obtain ⟨zs,n,_,_,hl,hz,hf⟩:=DataW.trod_struct F.struct h
 rw [F.cells] at hl
 refine ⟨hl,fun i x v hx hv=>?_⟩
 have hi:i < xs.length:=by
  rcases Nat.lt_or_ge i xs.length with h1 | h1
  ·exact h1
  ·rw [List.getElem?_eq_none h1] at hx; cases hx
 have hfi:i < fs.size:=by rw [F.size]; exact hi
 have e:=hf i fs[i] (Array.getElem?_eq_getElem hfi)
 obtain ⟨h1,h2,h3⟩:=F.field i fs[i] x (Array.getElem?_eq_getElem hfi) hx
 rw [h2,h3,List.getElem?_eq_getElem (by omega)] at e
 obtain ⟨u,hu,hfit⟩:=trod_leaf h1 e
 have hic:i < cs.length:=by omega
 rw [List.drop_eq_getElem_cons hic] at hu
 simp only [List.take_succ_cons,List.take_zero,List.cons.injEq,and_true] at hu
 rw [List.getElem?_eq_getElem hic] at hv
 cases hv
 rw [hu]; exact hfit
def valAt0 (w:World) (b off:Nat):Value:=(w.cell? ⟨b,off,none⟩).getD Go.undef
def rowAV (r:List Value):AV:=.agg (r.map .lit)
theorem slice_cells {t e:TypeId} (ht:P.underlying t = some (.slice e)) {w:World} {r:Reach} {base:Nat} {v:Value} (h:Value.okWide P w r base t v):v.cells.toList = [v]:=by
 unfold Value.okWide at h
 rw [ht] at h
 simp only at h
 unfold Cell.okWide at h
 rw [ht] at h
 cases v <;> first | rfl | (exfalso; simp [Cell.ok,ht] at h)
theorem rows_of {α:Type} {f:α → AV}:∀ {l:List (List Value)},(∀ r ∈ l,∃ x,rowAV r = f x) → ∃ m:List α,l.map rowAV = m.map f
 | [],_=>⟨[],rfl⟩
 | r :: l,h=>by
  obtain ⟨x,hx⟩:=h r (List.mem_cons_self ..)
  obtain ⟨m,hm⟩:=rows_of (fun q hq=>h q (List.mem_cons_of_mem _ hq))
  exact ⟨x :: m,by rw [List.map_cons,List.map_cons,hx,hm]⟩
theorem open_rows {t e:TypeId} {xs:List LK} {fs:Array Field} (ht:P.underlying t = some (.slice e)) (F:FlatT P e xs fs) (hx0:0 < xs.length) {w:World} {v:Value} {d:DataW H} {ps:List MemPlace}
  (h:DataW.Trod enc P w 0 (fun _=>true) true t v d ps) (hv:v.cells.toList = [v]) :
  ∃ l:List (List Value),l.length < 2 ^ 63 ∧ (∀ r ∈ l,FitsAll xs r) ∧ RelV (fun b=>b < w.heap.size) w [] (.vs xs.length (l.map rowAV)) v:=by
 obtain ⟨fuel,h⟩:=h
 rw [hv] at h
 rcases DataW.trod_slice ht h with ⟨h0,_⟩ | ⟨a,len,cap,elems,rest,n,_,hcs,_,_,hle,hcap,hlen,hel,_,_⟩
 ·simp at h0
  subst h0
  exact ⟨[],by decide,by simp,.vs [] xs.length [] none 0 (fun _ _=>Go.undef) (by simp) (fun h=>by simp at h) (fun i hi=>by simp at hi) (fun i hi=>by simp at hi)⟩
 ·simp at hcs
  subst hcs
  rw [F.cells] at hel
  have each:∀ i,i < len → ∃ cs:List Value,cs.length = xs.length ∧ FitsAll xs cs ∧ ∀ j,j < xs.length → w.cell? ((a.add (i * xs.length)).add j) = cs[j]?:=by
   intro i hi
   have e:=hel i hi
   rw [List.getElem?_eq_getElem (by omega)] at e
   obtain ⟨cs,hc,ht⟩:=Option.bind_eq_some_iff.1 e
   have hfit:=trod_flat F ht
   obtain ⟨_,_,hc2⟩:=World.cells?_some hc
   refine ⟨cs,hfit.1,hfit,fun j hj=>?_⟩
   have:=hc2 j hj
   simpa using this
  have hspot:0 < len → a.spot = none:=by
   intro h0
   obtain ⟨cs,hl,_,e⟩:=each 0 h0
   have e:=e 0 hx0
   rw [List.getElem?_eq_getElem (by omega)] at e
   simp only [Nat.zero_mul,Addr.add,if_true] at e
   unfold World.cell? at e
   split at e
   ·split at e
    ·cases e
    ·rename_i hs; simpa using hs
   ·cases e
  have ha:0 < len → a = ⟨a.block,a.off,none⟩:=fun h0=>by have:=hspot h0; cases a; simp_all
  have each2:∀ i,i < len → ∃ cs:List Value,cs.length = xs.length ∧ FitsAll xs cs ∧ ∀ j (hj:j < cs.length),w.cell? ⟨a.block,a.off + i * xs.length + j,none⟩ = some cs[j]:=by
   intro i hi
   obtain ⟨cs,hl,hf,e⟩:=each i hi
   refine ⟨cs,hl,hf,fun j hj=>?_⟩
   have e:=e j (by omega)
   have hs:=hspot (by omega)
   have q0:a.add (i * xs.length) = ⟨a.block,a.off + i * xs.length,none⟩:=by
    unfold Addr.add
    split
    ·rename_i hz; rw [hz]; cases a; simp_all
    ·rfl
   rw [q0] at e
   have q1:(⟨a.block,a.off + i * xs.length,none⟩:Addr).add j = ⟨a.block,a.off + i * xs.length + j,none⟩:=by
    unfold Addr.add
    split
    ·rename_i hz; rw [hz]; rfl
    ·rfl
   rw [q1,List.getElem?_eq_getElem hj] at e
   exact e
  let row:Nat → List Value:=fun i=>(List.range xs.length).map fun j=>valAt0 w a.block (a.off + i * xs.length + j)
  have hrow:∀ i,i < len → FitsAll xs (row i) ∧ ∀ j,j < xs.length → w.cell? ⟨a.block,a.off + i * xs.length + j,none⟩ = some (valAt0 w a.block (a.off + i * xs.length + j)):=by
   intro i hi
   obtain ⟨cs,hl,hf,e⟩:=each2 i hi
   have hrc:row i = cs:=by
    apply List.ext_getElem
    ·simp [row,hl]
    ·intro j h1 h2
     simp only [row,List.getElem_map,List.getElem_range,valAt0,e j h2,Option.getD_some]
   refine ⟨hrc ▸ hf,fun j hj=>?_⟩
   simp only [valAt0,e j (by omega),Option.getD_some]
  let l:List (List Value):=(List.range len).map row
  have hll:(l.map rowAV).length = len:=by simp [l]
  refine ⟨l,by rw [List.length_map] at hll; unfold maxLen at hcap; omega,?_,?_⟩
  ·intro r hr
   obtain ⟨i,hi,rfl⟩:=List.mem_map.1 hr
   exact (hrow i (List.mem_range.1 hi)).1
  have ecell:∀ i (hi:i < len),(l.map rowAV)[i]'(by omega) = rowAV (row i):=by
   intro i hi
   simp [l]
  have hR:=RelV.vs (I:=fun b=>b < w.heap.size) (w:=w) [] xs.length (l.map rowAV) (some a) cap (fun i j=>valAt0 w a.block (a.off + i * xs.length + j)) (by omega)
   (fun h0=>by
    rw [hll] at h0
    refine ⟨a.block,a.off,by rw [← ha h0],?_,fun i j hi hj=>?_⟩
    ·have e:=(hrow 0 h0).2 0 hx0
     unfold World.cell? at e
     rcases Nat.lt_or_ge a.block w.heap.size with h1 | h1
     ·exact h1
     ·rw [Array.getElem?_eq_none h1] at e; simp at e
    ·rw [hll] at hi
     exact (hrow i hi).2 j hj)
   (fun i hi=>by rw [ecell i (by omega)]; simp [rowAV,AV.cells,row])
   (fun i hi j hj=>by
    rw [hll] at hi
    have e0:=ecell i hi
    have hj2:j < xs.length:=by rw [e0] at hj; simpa [rowAV,AV.cells,row] using hj
    have:((l.map rowAV)[i]'(by omega)).cells[j] = .lit (valAt0 w a.block (a.off + i * xs.length + j)):=by
     simp only [e0,rowAV,AV.cells,List.getElem_map,row,List.getElem_range]
    rw [this]
    exact .lit _ _)
  rw [hll] at hR
  exact hR
end
theorem Gives.calls [KN : Know] {P : Program} {f : FuncId} {fn : Func} {c : Code} {args : List AV} {v : Value} (hf : P.funcs[f]? = some fn) (hb : fn.body = some c) (hname : (fn.name == "runtime.NumGoroutine") = false) (h : Gives P f args (.lit v))
  (w:World) (vals:Array Value) (hk:Knows (fun b=>b < w.heap.size) w) (ha:ArgsRel (fun b=>b < w.heap.size) w [] args vals) :
  Calls P f vals w fun e w'=>e = .returned v ∧ w.keptBut w' (fun _=>False) ∧ w.heap.size ≤ w'.heap.size ∧ ∀ b,b < w.heap.size → w'.heap[b]? = w.heap[b]?:=by
 have hH:RelH (fun b=>b < w.heap.size) [] [] w:=⟨rfl,fun o ob x h=>by simp at h,fun b hb=>by obtain ⟨o,l,e,_⟩:=hb; simp [MM.loc] at e,fun o o' l l' e=>by simp [MM.loc] at e,fun b hb=>hb,hk⟩
 have hno:∀ b,¬ MM.owns ([]:MM) b:=fun b hb=>by obtain ⟨o,l,e,_⟩:=hb; simp [MM.loc] at e
 rcases h _ [] w vals hH ha with ⟨_,h2⟩ | ⟨u,w',h1,_⟩
 ·refine h2.mono ?_
  rintro e w' ⟨v',r,h',I',μ',rfl,⟨rfl,rfl⟩,_,hr,S,_⟩
  obtain rfl:=hr.lit_eq
  have hsame:∀ b,b < w.heap.size → w'.heap[b]? = w.heap[b]?:=fun b hb=>S.same b hb (hno b)
  refine ⟨rfl,⟨S.ext.1,S.ext.2,fun i hi=>?_⟩,S.grow,hsame⟩
  rw [hsame i hi]
  split <;> simp_all
 ·exfalso
  unfold callFunc at h1
  simp only [Sem.run_bind,run_program,Result.andThen_ok,hf,hname,Bool.false_eq_true,if_false,hb,Option.isNone_some,Sem.run_pure] at h1
  cases h1
section
variable {H:Type} {enc:TypeId × Value → H}
theorem returns_of_change_open {a:Assume} {C:Checked} {os:Os} {f:FuncId} {fn:Func} {s:ChangeSpec} {conds:List PathCond} {apart fresh handsOn again:Bool} {X:World → Array Value → Prop}
  (hX:∀ (w w':World) (args:Array Value),w.heap = w'.heap → X w args → X w' args)
  (own:ownKnob C.prog.godebug = none) (started:os.Started) (noInit:C.prog.inits.idxOf? f = none) (hfn:C.prog.funcs[f]? = some fn)
  (witness:∃ (w:World) (tape:Tape) (i:Input),w.os = os ∧ (w.forCall tape i).Shaped C.prog ∧ i.vars = [] ∧ Input.okWide C.prog (w.forCall tape i) .any w.heap.size f i ∧
   ((s.pre enc C.prog fn conds apart (w.forCall tape i).memory i.args ∧ X (w.forCall tape i).memory i.args) ∧ sizedMet enc C.prog fn (OpenSpec.ofChange s) apart (w.forCall tape i).memory i.args) ∧ a.holds C.prog (lone (Frame.enter C.prog f i.args .normal) [] (w.forCall tape i)))
  (contract:∀ (W:World) (base:Nat) (args:Array Value) (ds gs:List (DataW H)) (before:List MemPlace),
   (∀ (j:Nat) t v,fn.params[j]? = some t → args[j]? = some v → Value.okWide C.prog W .any base t v) →
   DataW.Whole enc C.prog fn.params.toList s.vars apart W args.toList ds gs before → W.ShapedOpen C.prog → X W args →
   Calls C.prog f args W fun e W'=>∃ v,e = .returned v ∧ s.post enc C.prog fn apart fresh handsOn again W args v W') :
  ReturnsInHanded a C os f .any (fun w args=>(s.pre enc C.prog fn conds apart w args ∧ X w args) ∧ sizedMet enc C.prog fn (OpenSpec.ofChange s) apart w args) (s.post enc C.prog fn apart fresh handsOn again):=by
 refine returnsInHanded_of_calls own started noInit witness ?_
 intro w tape i _ hsh _ hok hpre _
 obtain ⟨_,_,_,fn',hfn',_,_,_,_,hval⟩:=hok
 obtain rfl:fn' = fn:=Option.some.inj (hfn'.symm.trans hfn)
 obtain ⟨⟨⟨ds,gs,before,hw,_⟩,hx⟩,_⟩:=hpre
 refine (contract (w.forCall tape i) w.heap.size i.args ds gs before hval (DataW.Whole.of_heap (w':=w.forCall tape i) (by rfl) hw) hsh (hX _ _ _ (by rfl) hx)).mono ?_
 rintro e W' ⟨v,rfl,hp⟩
 exact ChangeSpec.post_blind hp
end
end Go.Q
