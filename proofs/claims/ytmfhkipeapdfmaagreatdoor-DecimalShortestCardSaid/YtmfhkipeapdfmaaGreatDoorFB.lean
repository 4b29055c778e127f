import Derived.Test.YtmfhkipeapdfmaaGreatDoorFA
import Derived.Laws.StructEq
namespace Go.Q
open Go
theorem RelH.heap_eq [KN:Know] {I:Nat → Prop} {μ:MM} {h:List AObj} {w w':World} (H:RelH I μ h w) (e:w'.heap = w.heap):RelH I μ h w' :=
 ⟨H.len,fun k ob x h1 h2=>(H.objs k ob x h1 h2).mono (fun _ h=>h) (fun b _=>by rw [e]) (fun _ _ h=>h) (fun _ _=>by rw [e]),H.notI,H.apart,fun b hb=>by rw [e]; exact H.imm b hb,H.know.step (fun _ h=>h) (fun b _=>by rw [e])⟩
theorem Rel.heap_eq [KN:Know] {I:Nat → Prop} {μ:MM} {st:St} {a:Act} {w w':World} (R:Rel I μ st a w) (e:w'.heap = w.heap):Rel I μ st a w' :=
 ⟨fun d=>(R.tmps d).mono (fun _ h=>h) (fun b _=>by rw [e]),R.size,R.defers,R.heap.heap_eq e⟩
theorem Step.heap_eq {I I':Nat → Prop} {μ μ':MM} {w w' w'':World} (S:Step I μ w I' μ' w') (e:w''.heap = w'.heap) (hx:w''.os = w'.os ∧ w''.output = w'.output):Step I μ w I' μ' w'' :=
 ⟨S.mono,by rw [e]; exact S.grow,fun b h1 h2=>by rw [e]; exact S.same b h1 h2,S.own,S.imm,⟨hx.1.trans S.ext.1,hx.2.trans S.ext.2⟩⟩
def rowVals (n s:Nat) (val:Nat → Nat → Value):List Value:=(List.range (n * s)).map fun q=>val (q / s) (q % s)
theorem rowVals_length (n s:Nat) (val:Nat → Nat → Value):(rowVals n s val).length = n * s:=by simp [rowVals]
theorem rowVals_get {n s:Nat} {val:Nat → Nat → Value} {i j:Nat} (hi:i < n) (hj:j < s):(rowVals n s val)[i * s + j]? = some (val i j):=by
 have hlt:i * s + j < n * s:=by
  have:(i + 1) * s ≤ n * s:=Nat.mul_le_mul_right _ hi
  rw [Nat.add_mul,Nat.one_mul] at this
  omega
 have h1:(i * s + j) / s = i:=by
  rw [Nat.mul_comm,Nat.mul_add_div (by omega),Nat.div_eq_of_lt hj,Nat.add_zero]
 have h2:(i * s + j) % s = j:=by
  rw [Nat.mul_comm,Nat.mul_add_mod,Nat.mod_eq_of_lt hj]
 simp [rowVals,hlt,h1,h2]
def Elems (I:Nat → Prop) (w:World) (s:Nat) (xs:List AV) (val:Nat → Nat → Value):Prop :=
 (∀ i (hi:i < xs.length),(xs[i]).cells.length = s) ∧ ∀ i (hi:i < xs.length) j (hj:j < (xs[i]).cells.length),RelV I w [] ((xs[i]).cells[j]) (val i j)
def Src [KN:Know] (P:Program) (st:St) (x:Operand) (s:Nat) (xs:List AV):Prop :=
 ∀ I μ a w,Rel I μ st a w → ∃ val,Elems I w s xs val ∧ (Builtin.lenOf (a.eval x)).run P w = .ok xs.length w ∧
  (∀ n,n ≤ xs.length → ∀ w',w'.heap = w.heap → (Builtin.firstCells s n (a.eval x)).run P w' = .ok (rowVals n s val).toArray w') ∧
  (∀ i j,i < xs.length → j < s → (val i j).oneCell' = true)
theorem firstCells_some [_KN:Know] {P:Program} {w:World} {b off s n len cap:Nat} {val:Nat → Nat → Value} (hs:0 < s) (hc:∀ i j,i < n → j < s → w.cell? ⟨b,off + i * s + j,none⟩ = some (val i j)) :
  (Builtin.firstCells s n (.slice (some ⟨b,off,none⟩) len cap)).run P w = .ok (rowVals n s val).toArray w:=by
 have:=loadCells_ok (P:=P) (w:=w) (b:=b) (off:=off) (val:=fun q=>val (q / s) (q % s)) (n * s) (fun q hq=>by
  have h1:q / s < n:=by rw [Nat.div_lt_iff_lt_mul hs]; exact hq
  have h2:q % s < s:=Nat.mod_lt _ hs
  rw [← hc (q / s) (q % s) h1 h2]
  congr 2
  have:=Nat.div_add_mod q s
  rw [Nat.mul_comm] at this
  omega)
 simpa [Builtin.firstCells,rowVals] using this
theorem relI_one {I:Nat → Prop} {w:World} {c:AV} {v:Value} (hw:∀ b,I b → b < w.heap.size) (hc:oneQ [] c = true) (hv:RelV I w [] c v):v.oneCell' = true :=
 @oneQ_ok Know.none I [] [] w (@RelH.mk Know.none I [] [] w rfl (fun o ob x h=>by simp at h) (fun b ⟨o,l,h,_⟩=>by simp [MM.loc] at h) (fun o o' l l' h=>by simp [MM.loc] at h) hw (Knows.none I w)) c hc v hv
def OneCells (xs:List AV):Prop:=∀ x ∈ xs,∀ c ∈ x.cells,oneQ [] c = true
theorem Src.vs [KN:Know] {P:Program} {st:St} {x:Operand} {s:Nat} {xs:List AV} (hs:0 < s) (hx:aeval st x = .vs s xs) (h1:OneCells xs):Src P st x s xs:=by
 intro I μ a w R
 have hv:=R.eval x
 rw [hx] at hv
 obtain ⟨ad,cap,val,e,hcap,ha,hn,hr⟩:=hv.vs_inv
 refine ⟨val,⟨hn,hr⟩,by rw [e]; simp [Builtin.lenOf],fun n hle w' hw'=>?_,fun i j hi hj=>?_⟩
 ·rw [e]
  rcases Nat.eq_zero_or_pos n with h0 | h0
  ·subst h0
   cases ad with
   | none=>simp [Builtin.firstCells,rowVals]
   | some p=>simp [Builtin.firstCells,rowVals,loadCells,loadCellsFrom]
  ·obtain ⟨b,off,rfl,hb,hc⟩:=ha (by omega)
   refine firstCells_some hs (fun i j hi hj=>?_)
   rw [← hc i j (by omega) hj]
   unfold World.cell?; rw [hw']
 ·have hlen:=hn i hi
  exact relI_one R.heap.imm (h1 _ (List.getElem_mem hi) _ (List.getElem_mem (by omega))) (hr i hi j (by omega))
theorem Src.nils [KN:Know] {P:Program} {st:St} {x:Operand} {s:Nat} (hx:aeval st x = .nils):Src P st x s []:=by
 intro I μ a w R
 have hv:=R.eval x
 rw [hx] at hv
 have e:a.eval x = .slice none 0 0:=by
  generalize a.eval x = v at hv; cases hv; rfl
 refine ⟨fun _ _=>Go.undef,⟨fun i hi=>by simp at hi,fun i hi=>by simp at hi⟩,by rw [e]; simp [Builtin.lenOf],fun n hle w' hw'=>?_,fun i j hi=>by simp at hi⟩
 simp only [List.length_nil] at hle
 obtain rfl:n = 0:=by omega
 rw [e]; simp [Builtin.firstCells,rowVals]
theorem Src.str [KN:Know] {P:Program} {st:St} {x:Operand} {b:ByteArray} (hx:aeval st x = .lit (.string b)):Src P st x 1 (b.data.toList.map fun c=>.lit (.int .u8 c.toNat)):=by
 intro I μ a w R
 have hv:=R.eval x
 rw [hx] at hv
 have e:=hv.lit_eq
 have hsz:b.size = b.data.toList.length:=by rw [Array.length_toList]; rfl
 refine ⟨fun i _=>.int .u8 (b.data.toList.getD i 0).toNat,⟨fun i hi=>by simp only [List.getElem_map,AV.cells,List.length_cons,List.length_nil],fun i hi j hj=>?_⟩,by rw [e]; simp only [Builtin.lenOf,Sem.run_pure,List.length_map,hsz],fun n hle w' hw'=>?_,fun i j _ _=>rfl⟩
 ·simp only [List.length_map] at hi
  have:j = 0:=by simp [AV.cells] at hj; exact hj
  subst this
  simp only [List.getElem_map,AV.cells,List.getElem_cons_zero]
  rw [show b.data.toList.getD i 0 = b.data.toList[i] by simp [List.getD,List.getElem?_eq_getElem hi]]
  exact .lit _ _
 ·simp only [List.length_map] at hle
  rw [e]
  simp only [Builtin.firstCells,Sem.run_pure]
  congr 1
  apply Array.ext'
  simp only [rowVals,Nat.mul_one,Nat.div_one]
  apply List.ext_getElem
  ·simp only [Array.length_toList,Array.size_map,List.length_map,List.length_range]
   rw [show (b.extract 0 n).data.size = (b.extract 0 n).size from rfl,ByteArray.size_extract,hsz]
   omega
  ·intro i h1 h2
   simp only [List.length_map,List.length_range] at h2
   have h3:i < b.data.size:=by rw [← Array.length_toList]; omega
   simp [ByteArray.data_extract,List.getD,Array.getElem?_eq_getElem h3]
theorem Src.ref [KN:Know] {P:Program} {st:St} {x:Operand} {s k off len:Nat} {es:List AV} (hs:0 < s) (hx:aeval st x = .ref k off len) (hk:st.h[k]? = some (.arr s es)) (hle:off + len ≤ es.length)
  (h1:OneCells es):Src P st x s ((es.drop off).take len):=by
 intro I μ a w R
 have hv:=R.eval x
 rw [hx] at hv
 have hlen:((es.drop off).take len).length = len:=by simp; omega
 rcases Rel.ref R.heap hk hv with ⟨e,rfl,rfl,rfl,_⟩ | ⟨ad,l,e,rfl,_⟩ | ⟨l,cap,val,hl,e,hcap,hsz,hes,hb,hsz',hn,hc,hr⟩
 ·refine ⟨fun _ _=>Go.undef,⟨fun i hi=>by simp at hi,fun i hi=>by simp at hi⟩,by rw [e]; simp [Builtin.lenOf],fun n hle w' hw'=>?_,fun i j hi=>by simp at hi⟩
  simp at hle
  subst hle
  rw [e]; simp [Builtin.firstCells,rowVals]
 ·refine ⟨fun _ _=>Go.undef,⟨fun i hi=>by simp at hi,fun i hi=>by simp at hi⟩,by rw [e]; simp [Builtin.lenOf],fun n hle w' hw'=>?_,fun i j hi=>by simp at hi⟩
  simp at hle
  subst hle
  rw [e]
  cases ad with
  | none=>simp [Builtin.firstCells,rowVals]
  | some p=>simp [Builtin.firstCells,rowVals,loadCells,loadCellsFrom]
 ·refine ⟨fun i j=>val (off + i) j,⟨fun i hi=>?_,fun i hi j hj=>?_⟩,by rw [e,hlen]; simp [Builtin.lenOf],fun n hle' w' hw'=>?_,fun i j hi hj=>?_⟩
  ·rw [hlen] at hi
   simpa using hn (off + i) (by omega)
  ·rw [hlen] at hi
   have e1:((es.drop off).take len)[i]'(by rw [hlen]; exact hi) = es[off + i]:=by simp
   have hj':j < (es[off + i]).cells.length:=by rw [← e1]; exact hj
   simpa [e1] using hr (off + i) (by omega) j hj'
  ·rw [hlen] at hle'
   rw [e]
   refine firstCells_some hs (fun i j hi hj=>?_)
   rw [← hc (off + i) j (by omega) hj,Nat.add_mul,← Nat.add_assoc]
   unfold World.cell?; rw [hw']
  ·rw [hlen] at hi
   have h2:=hn (off + i) (by omega)
   exact relI_one R.heap.imm (h1 _ (List.getElem_mem (show off + i < es.length by omega)) _ (List.getElem_mem (by omega))) (hr (off + i) (by omega) j (by omega))
def Base (st:St) (x:Operand) (s:Nat) (ko:Option Nat) (bs:List AV):Prop :=
 (aeval st x = .nils ∧ ko = none ∧ bs = []) ∨
 ∃ k off len es,aeval st x = .ref k off len ∧ st.h[k]? = some (.arr s es) ∧ off + len ≤ es.length ∧ ko = some k ∧ bs = (es.drop off).take len
def killQ (h:List AObj):Option Nat → List AObj
 | none=>h
 | some k=>h.set k .dead
def killM (μ:MM):Option Nat → MM
 | none=>μ
 | some k=>μ.set k .gone
theorem killM_length (μ:MM) (ko:Option Nat):(killM μ ko).length = μ.length:=by cases ko <;> simp [killM]
theorem Rel.killO [KN:Know] {I:Nat → Prop} {μ:MM} {st:St} {a:Act} {w:World} (R:Rel I μ st a w) (ko:Option Nat):Rel I (killM μ ko) { st with h:=killQ st.h ko } a w:=by
 cases ko with
 | none=>exact R
 | some k=>exact R.kill k
theorem Step.killO [KN:Know] {I:Nat → Prop} {μ:MM} {w:World} (ko:Option Nat):Step I μ w I (killM μ ko) w:=by
 cases ko with
 | none=>exact Step.refl _ _ _
 | some k=>exact Step.kill k
theorem Pre.killO [_KN:Know] {n:Nat} {μ:MM} (ko:Option Nat) (h:n ≤ μ.length):Pre n μ (killM μ ko):=by
 cases ko with
 | none=>exact Pre.refl _ _ h
 | some k=>exact Pre.gone k h
theorem Rel.push [KN:Know] {I:Nat → Prop} {μ:MM} {st:St} {a:Act} {w:World} (R:Rel I μ st a w) {x:Slot} {ob:AObj} (ho:RelO I w (μ ++ [x]) ob x)
  (hx:∀ l,x = .at l → ¬ μ.owns l.block ∧ ¬ I l.block):Rel I (μ ++ [x]) { st with h:=st.h ++ [ob] } a w:=by
 have H:=R.heap
 have hloc:∀ k l',MM.loc (μ ++ [x]) k = some l' → (MM.loc μ k = some l' ∧ k < μ.length) ∨ (k = μ.length ∧ x = .at l'):=by
  intro k l' e
  rw [MM.loc_some] at e
  rcases Nat.lt_trichotomy k μ.length with h1 | h1 | h1
  ·rw [List.getElem?_append_left h1] at e; exact .inl ⟨MM.loc_some.2 e,h1⟩
  ·subst h1; rw [get_append_self] at e; cases e; exact .inr ⟨rfl,rfl⟩
  ·rw [List.getElem?_eq_none (by simp; omega)] at e; cases e
 refine ⟨fun d=>(R.tmps d).sub (MM.sub_append _ _),R.size,R.defers,⟨by simp [H.len],fun k ob' y hk hy=>?_,fun b hb=>?_,fun k k' l1 l2 e1 e2 e=>?_,H.imm,H.know⟩⟩
 ·rcases Nat.lt_trichotomy k st.h.length with h1 | h1 | h1
  ·rw [List.getElem?_append_left h1] at hk
   rw [List.getElem?_append_left (by rw [H.len]; exact h1)] at hy
   exact (H.objs k ob' y hk hy).mono (fun _ h=>h) (fun _ _=>rfl) (fun _ _ h=>h.sub (MM.sub_append _ _)) (fun _ _=>rfl)
  ·subst h1
   rw [get_append_self] at hk
   rw [← H.len,get_append_self] at hy
   cases hk; cases hy
   exact ho
  ·rw [List.getElem?_eq_none (by simp; omega)] at hk; cases hk
 ·obtain ⟨k,l',e,rfl⟩:=hb
  rcases hloc k l' e with ⟨h1,_⟩ | ⟨_,h1⟩
  ·exact H.notI _ ⟨k,l',h1,rfl⟩
  ·exact (hx l' h1).2
 ·rcases hloc k l1 e1 with ⟨h1,hk⟩ | ⟨rfl,h1⟩ <;> rcases hloc k' l2 e2 with ⟨h2,hk'⟩ | ⟨rfl,h2⟩
  ·exact H.apart _ _ _ _ h1 h2 e
  ·exact absurd ⟨k,l1,h1,e⟩ (hx l2 h2).1
  ·exact absurd ⟨k',l2,h2,e.symm⟩ (hx l1 h1).1
  ·rfl
theorem Rel.scratch [KN:Know] {I:Nat → Prop} {μ:MM} {st:St} {a:Act} {w w':World} (R:Rel I μ st a w) {B:Nat} (hw:∀ b,b ≠ B → w'.heap[b]? = w.heap[b]?) (hsz:w'.heap.size = w.heap.size)
  (h1:¬ μ.owns B) (h2:¬ I B):Rel I μ st a w':=by
 have hI:∀ b,I b → w'.heap[b]? = w.heap[b]?:=fun b hb=>hw b (fun e=>h2 (e ▸ hb))
 refine ⟨fun d=>(R.tmps d).mono (fun _ h=>h) hI,R.size,R.defers,⟨R.heap.len,fun k ob x hk hx=>?_,R.heap.notI,R.heap.apart,fun b hb=>by rw [hsz]; exact R.heap.imm b hb,R.heap.know.step (fun _ h=>h) hI⟩⟩
 refine (R.heap.objs k ob x hk hx).mono (fun _ h=>h) hI (fun _ _ h=>h) (fun l e=>hw _ (fun e'=>h1 ⟨k,l,?_,e'⟩))
 subst e
 exact MM.loc_some.2 hx
theorem not_owns_kill [KN:Know] {I:Nat → Prop} {μ:MM} {h:List AObj} {w:World} (H:RelH I μ h w) {k:Nat} {l:Loc} (hl:μ.loc k = some l):¬ MM.owns (μ.set k .gone) l.block:=by
 rintro ⟨j,l',e,e'⟩
 rw [MM.loc_some] at e
 by_cases e3:k = j
 ·subst e3
  rcases Nat.lt_or_ge k μ.length with h1 | h1
  ·rw [List.getElem?_set_self h1] at e; cases e
  ·rw [List.getElem?_eq_none (by simpa using h1)] at e; cases e
 ·rw [List.getElem?_set_ne e3] at e
  exact e3 (H.apart _ _ _ _ hl (MM.loc_some.2 e) e'.symm)
theorem rowVals_one {n s:Nat} {val:Nat → Nat → Value} (hs:0 < s) (h:∀ i j,i < n → j < s → (val i j).oneCell' = true):∀ v ∈ rowVals n s val,v.oneCell' = true:=by
 intro v hv
 simp only [rowVals,List.mem_map,List.mem_range] at hv
 obtain ⟨q,hq,rfl⟩:=hv
 exact h _ _ (by rw [Nat.div_lt_iff_lt_mul hs]; exact hq) (Nat.mod_lt _ hs)
section
variable {P:Program} {w:World} {t u e ty:Nat} (ht:P.underlying t = some (.slice e)) (hu:P.underlying u = some .string ∨ ∃ e',P.underlying u = some (.slice e')) {i:TypeInfo} (hi:P.info? e = some i) {z:Value} (hz:i.zero = some z)
 {base:Option Addr} {sLen sCap n:Nat} {v:Value} {news:Array Value} (hlen:(Builtin.lenOf v).run P w = .ok n w) (hnew:∀ w',w'.heap = w.heap → (Builtin.firstCells i.size n v).run P w' = .ok news w')
include ht hu hi hz hlen hnew
theorem run_append_new {olds:Array Value} (hold:∀ w',w'.heap = w.heap → (Builtin.firstCells i.size sLen (.slice base sLen sCap)).run P w' = .ok olds w') (hg:sCap < sLen + n)
  (h63:sLen + n ≤ 9223372036854775807) (hfit:(sLen + n) * i.bytes ≤ 140737488355328) :
  ∃ cap w',(Builtin.append_ #[t,u] ty #[.slice base sLen sCap,v]).run P w = .ok (.slice (some ⟨w.heap.size,0,none⟩) (sLen + n) cap) w' ∧ sLen + n ≤ cap ∧
   w'.heap = w.heap.push (.cells (olds ++ news ++ Builtin.zeroCells z.cells (cap - (sLen + n))) e) ∧ w'.os = w.os ∧ w'.output = w.output:=by
 have hn:¬ (sLen + n ≤ sCap):=by omega
 have h48:¬ (281474976710656 < Builtin.nextslicecap (sLen + n) sCap * i.bytes):=by
  have:=growslice_fits (need:=sLen + n) (old:=sCap) (bytes:=i.bytes) hg hfit
  omega
 have h63':¬ (9223372036854775807 < ((sLen:Int) + (n:Int))):=by omega
 have h1:=hold w.drew rfl
 have h2:=hnew w.drew rfl
 refine ⟨(Question.appendCap (sLen + n) sCap e).cut (w.tape w.drawn (.appendCap (sLen + n) sCap e)),w.drew.alloc (.cells (olds ++ news ++ Builtin.zeroCells z.cells ((Question.appendCap (sLen + n) sCap e).cut (w.tape w.drawn (.appendCap (sLen + n) sCap e)) - (sLen + n))) e),?_,?_,rfl,rfl,rfl⟩
 ·rcases hu with hd | ⟨e',hd⟩ <;>
   simp [Builtin.append_,run_underlying ht,run_underlying hd,sizeOf,typeInfo,zeroValue,hi,hz,hlen,hn,h63',h48,Question.forced,newRow,h1,h2]
 ·simp only [Question.cut]; omega
theorem run_append_in [_KN:Know] {b off:Nat} (hbase:base = some ⟨b,off,none⟩) (hg:sLen + n ≤ sCap) :
  (Builtin.append_ #[t,u] ty #[.slice base sLen sCap,v]).run P w =
   ((storeCells ⟨b,off + sLen * i.size,none⟩ news.toList).run P w).andThen fun _ w'=>.ok (.slice base (sLen + n) sCap) w':=by
 have _hz:=hz
 rcases hu with hd | ⟨e',hd⟩ <;> simp [Builtin.append_,run_underlying ht,run_underlying hd,sizeOf,typeInfo,hi,hlen,hg,hbase,hnew w rfl,addr_add]
theorem run_append_zero (hb:base = none ∨ news = #[]) (hg:sLen + n ≤ sCap) :
  (Builtin.append_ #[t,u] ty #[.slice base sLen sCap,v]).run P w = .ok (.slice base (sLen + n) sCap) w:=by
 have _hz:=hz
 cases base with
 | none=>rcases hu with hd | ⟨e',hd⟩ <;> simp [Builtin.append_,run_underlying ht,run_underlying hd,sizeOf,typeInfo,hi,hlen,hg,hnew w rfl]
 | some p =>
  rcases hb with hb | rfl
  ·cases hb
  ·rcases hu with hd | ⟨e',hd⟩ <;> simp [Builtin.append_,run_underlying ht,run_underlying hd,sizeOf,typeInfo,hi,hlen,hg,hnew w rfl,storeCells]
end
end Go.Q
namespace Go.Q
open Go
theorem Step.scratch {I:Nat → Prop} {μ:MM} {w w':World} {B:Nat} (hw:∀ b,b ≠ B → w'.heap[b]? = w.heap[b]?) (hsz:w'.heap.size = w.heap.size) (h:μ.owns B) (hx:w'.os = w.os ∧ w'.output = w.output):Step I μ w I μ w' :=
 ⟨fun _ h=>h,by omega,fun b _ hn=>hw b (fun e=>hn (e ▸ h)),fun _ h=>.inl h,fun _ h=>.inl h,hx⟩
theorem Step.push [_KN:Know] {I:Nat → Prop} {μ μ':MM} {w w':World} (S:Step I μ w I μ' w') {x:Slot} (hx:∀ l,x = .at l → μ.owns l.block ∨ w.heap.size ≤ l.block):Step I μ w I (μ' ++ [x]) w':=by
 refine ⟨S.mono,S.grow,S.same,fun b hb=>?_,S.imm,S.ext⟩
 obtain ⟨j,l,e,rfl⟩:=hb
 rw [MM.loc_some] at e
 rcases Nat.lt_trichotomy j μ'.length with h1 | h1 | h1
 ·rw [List.getElem?_append_left h1] at e; exact S.own _ ⟨j,l,MM.loc_some.2 e,rfl⟩
 ·subst h1; rw [get_append_self] at e; cases e; exact hx l rfl
 ·rw [List.getElem?_eq_none (by simp; omega)] at e; cases e
inductive BaseV (I:Nat → Prop) (μ:MM) (w:World) (s:Nat) (bs:List AV):Option Nat → Value → Prop
 | nil:bs = [] → BaseV I μ w s bs none (.slice none 0 0)
 | nil' (k:Nat):bs = [] → BaseV I μ w s bs (some k) (.slice none 0 0)
 | empty (k:Nat) (ad:Option Addr) (l:Loc):bs = [] → μ.loc k = some l → BlockOK w l → l.esz = s → l.base ≤ l.size → BaseV I μ w s bs (some k) (.slice ad 0 0)
 | row (k:Nat) (l:Loc) (off cap:Nat) (val:Nat → Nat → Value):μ.loc k = some l → bs.length ≤ cap → l.base + (off + cap) * s ≤ l.size → l.esz = s → BlockOK w l →
   Elems I w s bs val → (∀ i j,i < bs.length → j < s → w.cell? ⟨l.block,l.base + (off + i) * s + j,none⟩ = some (val i j)) →
   BaseV I μ w s bs (some k) (.slice (some ⟨l.block,l.base + off * s,none⟩) bs.length cap)
theorem Base.val [KN:Know] {st:St} {x:Operand} {s:Nat} {ko:Option Nat} {bs:List AV} (h:Base st x s ko bs) {I:Nat → Prop} {μ:MM} {a:Act} {w:World} (R:Rel I μ st a w) :
  BaseV I μ w s bs ko (a.eval x):=by
 have hv:=R.eval x
 rcases h with ⟨hx,rfl,rfl⟩ | ⟨k,off,len,es,hx,hk,hle,rfl,rfl⟩
 ·rw [hx] at hv
  generalize a.eval x = v at hv
  cases hv
  exact .nil rfl
 ·rw [hx] at hv
  have hlen:((es.drop off).take len).length = len:=by simp; omega
  rcases Rel.ref R.heap hk hv with ⟨e,rfl,rfl,rfl,_⟩ | ⟨ad,l,e,rfl,hl⟩ | ⟨l,cap,val,hl,e,hcap,hsz,hes,hb,hsz',hn,hc,hr⟩
  ·rw [e]; exact .nil' k (by simp)
  ·rw [e]
   obtain ⟨y,hy,hO⟩:=Rel.slot R.heap hk
   rw [MM.loc_some,hy] at hl
   cases hl
   rcases hO.arr_inv with ⟨e1,_⟩ | ⟨l',val,e1,hes,hb,hle',_⟩
   ·cases e1
   ·cases e1
    exact .empty k ad l (by simp) (MM.loc_some.2 hy) hb hes (by omega)
  ·rw [e]
   have:=BaseV.row (I:=I) (μ:=μ) (w:=w) (s:=s) (bs:=(es.drop off).take len) k l off cap (fun i j=>val (off + i) j) hl (by rw [hlen]; exact hcap) hsz hes hb
    ⟨fun i hi=>by rw [hlen] at hi; simpa using hn (off + i) (by omega),fun i hi j hj=>by
     rw [hlen] at hi
     have e1:((es.drop off).take len)[i]'(by rw [hlen]; exact hi) = es[off + i]:=by simp
     have hj':j < (es[off + i]).cells.length:=by rw [← e1]; exact hj
     simpa [e1] using hr (off + i) (by omega) j hj'⟩
    (fun i j hi hj=>by rw [hlen] at hi; exact hc (off + i) j (by omega) hj)
   rwa [hlen] at this
theorem Elems.append {I:Nat → Prop} {w:World} {s:Nat} {xs ys:List AV} {v1 v2:Nat → Nat → Value} (h1:Elems I w s xs v1) (h2:Elems I w s ys v2) :
  Elems I w s (xs ++ ys) (fun i j=>if i < xs.length then v1 i j else v2 (i - xs.length) j):=by
 refine ⟨fun i hi=>?_,fun i hi j hj=>?_⟩
 ·rw [List.getElem_append]
  split
  ·exact h1.1 _ _
  ·exact h2.1 _ _
 ·by_cases h:i < xs.length
  ·have e:(xs ++ ys)[i] = xs[i]:=List.getElem_append_left h
   have hj':j < (xs[i]).cells.length:=by rw [← e]; exact hj
   simp only [e,if_pos h]
   exact h1.2 i h j hj'
  ·have hi':i - xs.length < ys.length:=by simp at hi; omega
   have e:(xs ++ ys)[i] = ys[i - xs.length]:=List.getElem_append_right (by omega)
   have hj':j < (ys[i - xs.length]).cells.length:=by rw [← e]; exact hj
   simp only [e,if_neg h]
   exact h2.2 (i - xs.length) hi' j hj'
theorem Elems.mono {I:Nat → Prop} {w w':World} {s:Nat} {xs:List AV} {v:Nat → Nat → Value} (h:Elems I w s xs v) (hw:∀ b,I b → w'.heap[b]? = w.heap[b]?):Elems I w' s xs v :=
 ⟨h.1,fun i hi j hj=>(h.2 i hi j hj).mono (fun _ h=>h) hw⟩
theorem SOp.append [KN:Know] {P:Program} {n:Nat} {o:Oper} {N:St → Prop} {st:St} {t u e s:Nat} {x y:Operand} (ho:o.op = .call { callee:=.builtin .append,args:=#[x,y],argTypes:=#[t,u] })
  (ht:P.underlying t = some (.slice e)) (hu:P.underlying u = some .string ∨ ∃ e',P.underlying u = some (.slice e')) {i:TypeInfo} (hi:P.info? e = some i) (his:i.size = s) (hs:0 < s) {z:Value} (hz:i.zero = some z) (hzs:z.cells.size = s)
  {ko:Option Nat} {bs xs:List AV} (hb:Base st x s ko bs) (hsrc:Src P st y s xs) (hfit:(bs.length + xs.length) * i.bytes ≤ 140737488355328) (h63:bs.length + xs.length ≤ 9223372036854775807)
  (hN:N (({ st with h:=killQ st.h ko ++ [.arr s (bs ++ xs)] }:St).put o.dst (.ref st.h.length 0 (bs.length + xs.length)))):SOp P n o N st:=by
 intro I μ a w R hn next Q hk
 obtain ⟨v2,hE2,hlen2,hfc2,hone2⟩:=hsrc I μ a w R
 have hbv:=hb.val R
 subst his
 have hfc2':∀ w',w'.heap = w.heap → (Builtin.firstCells i.size xs.length (a.eval y)).run P w' = .ok (rowVals xs.length i.size v2).toArray w':=hfc2 _ (Nat.le_refl _)
 have hexec:execOp a.eval o = (do let r ← Builtin.append_ #[t,u] o.type #[a.eval x,a.eval y]; Pure.pure (.value r):Sem Next):=by
  simp only [execOp,ho,resolve,List.map_toArray,List.map_cons,List.map_nil]
  rfl
 have fin:∀ (r:Value) (w':World) (x':Slot),(Builtin.append_ #[t,u] o.type #[a.eval x,a.eval y]).run P w = .ok r w' → Rel I (killM μ ko) { st with h:=killQ st.h ko } a w' → Step I μ w I (killM μ ko) w' →
   RelO I w' (killM μ ko ++ [x']) (.arr i.size (bs ++ xs)) x' → (∀ l,x' = .at l → ¬ (killM μ ko).owns l.block ∧ ¬ I l.block) → (∀ l,x' = .at l → μ.owns l.block ∨ w.heap.size ≤ l.block) →
   RelV I w' (killM μ ko ++ [x']) (.ref st.h.length 0 (bs.length + xs.length)) r → o.wp P a w next Q:=by
  intro r w' x' hr R1 S1 hO hx1 hx2 hv
  unfold Oper.wp
  rw [hexec,Sem.run_bind,hr]
  have R2:=R1.push hO hx1
  refine hk _ _ _ _ _ hN (R2.put hv o.dst) (S1.push hx2) ?_
  exact (Pre.killO ko hn).trans (Pre.append _ (by rw [killM_length]; exact hn))
 have hidx:(killM μ ko ++ [Slot.nil])[st.h.length]? = some .nil:=by
  rw [← R.heap.len,← killM_length μ ko,get_append_self]
 have hidx2:∀ l,MM.loc (killM μ ko ++ [Slot.at l]) st.h.length = some l:=fun l=>by
  rw [MM.loc_some,← R.heap.len,← killM_length μ ko,get_append_self]
 have finNew:∀ (base:Option Addr) (cap:Nat) (v1:Nat → Nat → Value),a.eval x = .slice base bs.length cap → (∀ w',w'.heap = w.heap → (Builtin.firstCells i.size bs.length (.slice base bs.length cap)).run P w' = .ok (rowVals bs.length i.size v1).toArray w') →
   Elems I w i.size bs v1 → cap < bs.length + xs.length → o.wp P a w next Q:=by
  intro base cap v1 e1 hold hE1 hg
  obtain ⟨cap',w',hr,hcap,hw',hx0⟩:=run_append_new (P:=P) (w:=w) (ty:=o.type) ht hu hi hz hlen2 hfc2' (base:=base) (sLen:=bs.length) (sCap:=cap) hold hg h63 hfit
  have hold':∀ b,b < w.heap.size → w'.heap[b]? = w.heap[b]?:=fun b hb=>by rw [hw',Array.getElem?_push_lt hb,Array.getElem?_eq_getElem hb]
  obtain ⟨cells,hcells⟩:∃ c:Array Value,c = (rowVals bs.length i.size v1).toArray ++ (rowVals xs.length i.size v2).toArray ++ Builtin.zeroCells z.cells (cap' - (bs.length + xs.length)):=⟨_,rfl⟩
  rw [← hcells] at hw'
  have hcs:cells.size = cap' * i.size:=by
   simp only [hcells,Array.size_append,List.size_toArray,rowVals_length,Builtin.zeroCells,Array.size_map,Array.size_range,hzs]
   rw [← Nat.add_mul,← Nat.add_mul]
   congr 1; omega
  let l:Loc:=⟨w.heap.size,0,i.size,cells.size⟩
  have hnewcell:∀ q,w'.cell? ⟨w.heap.size,q,none⟩ = cells[q]?:=fun q=>by simp [World.cell?,hw']
  have R0:=R.killO ko
  have hnown:∀ b,(killM μ ko).owns b → b < w.heap.size:=fun b hb=>R0.heap.size_owned hb
  have R1:Rel I (killM μ ko) { st with h:=killQ st.h ko } a w':=by
   refine ⟨fun d=>(R0.tmps d).mono (fun _ h=>h) (fun b hb=>hold' b (R.heap.imm b hb)),R0.size,R0.defers,⟨R0.heap.len,fun k ob y h1 h2=>?_,R0.heap.notI,R0.heap.apart,fun b hb=>?_,R0.heap.know.step (fun _ h=>h) (fun b hb=>hold' b (R.heap.imm b hb))⟩⟩
   ·refine (R0.heap.objs k ob y h1 h2).mono (fun _ h=>h) (fun b hb=>hold' b (R.heap.imm b hb)) (fun _ _ h=>h) (fun l e=>hold' _ (hnown _ ⟨k,l,?_,rfl⟩))
    subst e; exact MM.loc_some.2 h2
   ·rw [hw']; have:=R.heap.imm b hb; simp; omega
  have hE:=(hE1.append hE2).mono (w':=w') (fun b hb=>hold' b (R.heap.imm b hb))
  refine fin _ w' (.at l) (by rw [e1]; exact hr) R1 ?_ ?_ (fun l' e=>?_) (fun l' e=>?_) ?_
  ·refine (Step.killO ko).trans ⟨fun _ h=>h,by rw [hw']; simp,fun b hb _=>hold' b hb,fun _ h=>.inl h,fun _ h=>.inl h,hx0⟩
  ·refine .arr _ _ l _ rfl ⟨cells,e,0,0,by simp [l,hw'],rfl,by omega⟩ ?_ hE.1 (fun p q hp hq=>?_) hE.2
   ·simp only [l,Nat.zero_add,List.length_append]
    rw [hcs]; exact Nat.mul_le_mul_right _ hcap
   ·simp only [l,Nat.zero_add,hnewcell]
    simp only [List.length_append] at hp
    by_cases h1:p < bs.length
    ·rw [if_pos h1,← rowVals_get h1 hq]
     have hlt:p * i.size + q < (rowVals bs.length i.size v1).length:=by
      have:=rowVals_get (val:=v1) h1 hq
      rcases Nat.lt_or_ge (p * i.size + q) (rowVals bs.length i.size v1).length with h2 | h2
      ·exact h2
      ·rw [List.getElem?_eq_none h2] at this; cases this
     rw [hcells,Array.getElem?_append_left (by simp; omega),Array.getElem?_append_left (by simpa using hlt)]
     simp
    ·have h2:p - bs.length < xs.length:=by omega
     have hpe:p * i.size + q = bs.length * i.size + ((p - bs.length) * i.size + q):=by
      have:p = bs.length + (p - bs.length):=by omega
      rw [this,Nat.add_mul,Nat.add_sub_cancel_left]; omega
     rw [if_neg h1,← rowVals_get h2 hq]
     have hlt:(p - bs.length) * i.size + q < (rowVals xs.length i.size v2).length:=by
      have:=rowVals_get (val:=v2) h2 hq
      rcases Nat.lt_or_ge ((p - bs.length) * i.size + q) (rowVals xs.length i.size v2).length with h3 | h3
      ·exact h3
      ·rw [List.getElem?_eq_none h3] at this; cases this
     rw [hcells,hpe,Array.getElem?_append_left (by simp [rowVals_length] at hlt ⊢; omega),Array.getElem?_append_right (by simp [rowVals_length])]
     simp [rowVals_length]
  ·cases e
   exact ⟨fun h=>by have:=hnown _ h; simp [l] at this,fun h=>by have:=R.heap.imm _ h; simp [l] at this⟩
  ·cases e; right; simp [l]
  ·have:=RelV.ref (I:=I) (w:=w') (killM μ ko ++ [.at l]) st.h.length 0 (bs.length + xs.length) cap' l (hidx2 l) hcap (by simp only [l,Nat.zero_add,hcs]; exact Nat.le_refl _)
   simpa [l] using this
 have finNone:∀ (ad:Option Addr) (x':Slot),bs = [] → a.eval x = .slice ad 0 0 → (xs = [] → RelO I w (killM μ ko ++ [x']) (.arr i.size []) x') → (∀ l,x' = .at l → ¬ (killM μ ko).owns l.block ∧ ¬ I l.block) → (∀ l,x' = .at l → μ.owns l.block ∨ w.heap.size ≤ l.block) →
   RelV I w (killM μ ko ++ [x']) (.ref st.h.length 0 0) (.slice ad 0 0) → o.wp P a w next Q:=by
  intro ad x' hbs e hO h1 h2 hv
  subst hbs
  by_cases hx:xs = []
  ·subst hx
   refine fin (.slice ad 0 0) w x' ?_ (R.killO ko) (Step.killO ko) (hO rfl) h1 h2 hv
   have:=run_append_zero (P:=P) (w:=w) (ty:=o.type) ht hu hi hz hlen2 hfc2' (base:=ad) (sLen:=0) (sCap:=0) (.inr (by simp [rowVals])) (by simp)
   simpa [e] using this
  ·have hpos:0 < xs.length:=List.length_pos_iff.2 hx
   refine finNew ad 0 (fun _ _=>Go.undef) (by simpa using e) (fun w' _=>?_) ⟨fun i hi=>by simp at hi,fun i hi=>by simp at hi⟩ (by simpa using hpos)
   cases ad with
   | none=>simp [Builtin.firstCells,rowVals]
   | some p=>simp [Builtin.firstCells,rowVals,loadCells,loadCellsFrom]
 clear hb
 generalize hev:a.eval x = v at hbv
 cases hbv with
 | nil hbs=>exact finNone none .nil hbs hev (fun _=>.arr0 _) (fun l e=>by cases e) (fun l e=>by cases e) (.ref0 _ _ hidx)
 | nil' k hbs=>exact finNone none .nil hbs hev (fun _=>.arr0 _) (fun l e=>by cases e) (fun l e=>by cases e) (.ref0 _ _ hidx)
 | empty k ad l hbs hl hb hes hle =>
  refine finNone ad (.at l) hbs hev (fun _=>.arr _ _ l (fun _ _=>Go.undef) hes hb ?_ (fun i hi=>by simp at hi) (fun i j hi=>by simp at hi) (fun i hi=>by simp at hi)) (fun l' e=>?_) (fun l' e=>?_) (.refE _ _ _ l ad (hidx2 l))
  ·simpa using hle
  ·cases e; exact ⟨not_owns_kill R.heap hl,fun h=>R.heap.notI _ ⟨k,l,hl,rfl⟩ h⟩
  ·cases e; exact .inl ⟨k,l,hl,rfl⟩
 | row k l off cap v1 hl hcap hsz hes hb hE1 hc1 =>
  by_cases hg:cap < bs.length + xs.length
  ·exact finNew _ cap v1 hev (fun w' hw'=>firstCells_some hs (fun p q hp hq=>by
    rw [← hc1 p q hp hq,Nat.add_mul,← Nat.add_assoc]
    unfold World.cell?; rw [hw'])) hE1 hg
  ·have hg':bs.length + xs.length ≤ cap:=by omega
   have hbd:l.base + off * i.size + (bs.length + xs.length) * i.size ≤ l.size:=by
    have:(off + (bs.length + xs.length)) * i.size ≤ (off + cap) * i.size:=Nat.mul_le_mul_right _ (by omega)
    rw [Nat.add_mul] at this; omega
   obtain ⟨w',hrn,⟨hs1,hx1⟩,ho1,hb1,hc'⟩:=storeCells_ok (P:=P) (l:=l) (rowVals xs.length i.size v2) (l.base + off * i.size + bs.length * i.size) 0 w hb
    (by rw [rowVals_length]; rw [Nat.add_mul] at hbd; omega) (rowVals_one hs hone2)
   have hrun:=run_append_in (P:=P) (w:=w) (ty:=o.type) ht hu hi hz hlen2 hfc2' (sLen:=bs.length) (sCap:=cap) (b:=l.block) (off:=l.base + off * i.size) rfl hg'
   rw [hrn,Result.andThen_ok] at hrun
   have hown:μ.owns l.block:=⟨k,l,hl,rfl⟩
   have hnI:¬ I l.block:=R.heap.notI _ hown
   have hI:∀ b,I b → w'.heap[b]? = w.heap[b]?:=fun b hb=>ho1 b (fun e=>hnI (e ▸ hb))
   let l':Loc:=⟨l.block,l.base + off * i.size,i.size,l.size⟩
   have hE:=(hE1.append hE2).mono (w':=w') hI
   refine fin _ w' (.at l') (by rw [hev]; exact hrun) ((R.killO (some k)).scratch ho1 hs1 (not_owns_kill R.heap hl) hnI) ((Step.scratch ho1 hs1 hown hx1).trans (Step.killO (some k))) ?_ (fun l2 e=>?_) (fun l2 e=>?_) ?_
   ·refine .arr _ _ l' _ rfl hb1 (by simp only [l',List.length_append]; exact hbd) hE.1 (fun p q hp hq=>?_) hE.2
    simp only [l',hc',Nat.add_zero,rowVals_length]
    simp only [List.length_append] at hp
    by_cases h1:p < bs.length
    ·have hlt:p * i.size + q < bs.length * i.size:=by
      have:(p + 1) * i.size ≤ bs.length * i.size:=Nat.mul_le_mul_right _ h1
      rw [Nat.add_mul,Nat.one_mul] at this; omega
     rw [if_neg (by omega),if_pos h1,← hc1 p q h1 hq,Nat.add_mul,← Nat.add_assoc]
    ·have h2:p - bs.length < xs.length:=by omega
     have hpe:p * i.size + q = bs.length * i.size + ((p - bs.length) * i.size + q):=by
      have:p = bs.length + (p - bs.length):=by omega
      rw [this,Nat.add_mul,Nat.add_sub_cancel_left]; omega
     have hlt:(p - bs.length) * i.size + q < xs.length * i.size:=by
      have:(p - bs.length + 1) * i.size ≤ xs.length * i.size:=Nat.mul_le_mul_right _ h2
      rw [Nat.add_mul,Nat.one_mul] at this; omega
     rw [if_pos (by omega),if_neg h1,← rowVals_get h2 hq]
     congr 1; omega
   ·cases e; exact ⟨(not_owns_kill R.heap hl:¬ MM.owns (μ.set k .gone) l.block),hnI⟩
   ·cases e; exact .inl hown
   ·have:=RelV.ref (I:=I) (w:=w') (killM μ (some k) ++ [.at l']) st.h.length 0 (bs.length + xs.length) cap l' (hidx2 l') hg' (by simp only [l',Nat.zero_add]; rw [Nat.add_mul] at hsz; omega)
    simpa [l'] using this
end Go.Q
namespace Go.Q
open Go
def bt (s:ByteArray) (i:Int):Int:=((s.data.toList.getD i.toNat 0).toNat:Int)
theorem SOp.index [KN:Know] {P:Program} {n:Nat} {o:Oper} {N:St → Prop} {st:St} {t:TypeId} {x y:Operand} (ho:o.op = .index t x y) (ht:P.underlying t = some .string) {s:ByteArray} {k:IntKind} {i:Int}
  (hx:aeval st x = .lit (.string s)) (hy:aeval st y = .lit (.int k i)) (h0:0 ≤ i) (h1:i < s.size) (hN:N (st.put o.dst (.lit (.int .u8 (bt s i))))):SOp P n o N st:=by
 refine SOp.pure (fun I μ a w R=>⟨.int .u8 (bt s i),?_,.lit _ _⟩) hN
 have e1:=R.eval x; rw [hx] at e1
 have e2:=R.eval y; rw [hy] at e2
 simp only [execOp,ho,e1.lit_eq,e2.lit_eq,Sem.run_bind,run_index_string w t s k i ht]
 rw [dif_pos ⟨h0,h1⟩]
 have hlt:i.toNat < s.data.size:=by
  have:s.data.size = s.size:=rfl
  omega
 have:(s.data.toList.getD i.toNat 0) = s[i.toNat]'(by omega):=by
  simp only [List.getD,Array.getElem?_toList,Array.getElem?_eq_getElem hlt,Option.getD_some]
  rfl
 simp only [bt,this,Result.andThen_ok,Sem.run_pure]
theorem SOp.indexVs [KN:Know] {P:Program} {n:Nat} {o:Oper} {N:St → Prop} {st:St} {t et:TypeId} {x y:Operand} (ho:o.op = .indexAddr t x y) (ht:P.underlying t = some (.slice et)) {s:Nat} (hsz:sizeQ P et = some s)
  {es:List AV} (hx:aeval st x = .vs s es) {k:IntKind} {i:Int} (hy:aeval st y = .lit (.int k i)) (h0:0 ≤ i) {e:AV} (he:es[i.toNat]? = some e) (hN:N (st.put o.dst (.iptr e))):SOp P n o N st:=by
 refine SOp.pure (fun I μ a w R=>?_) hN
 have e1:=R.eval x; rw [hx] at e1
 have e2:=R.eval y; rw [hy] at e2
 obtain ⟨ad,cap,val,hv,_⟩:=e1.vs_inv
 rw [hv] at e1
 obtain ⟨b,off,rfl,hlt,hr⟩:=e1.vs_at he
 refine ⟨_,?_,hr⟩
 have h2:0 ≤ i ∧ i < (es.length:Int):=⟨h0,by omega⟩
 simp only [execOp,ho,Instr.indexAt,hv,e2.lit_eq,asIntOf,Sem.run_bind,Sem.run_pure,Result.andThen_ok,run_underQ ht,h2,and_self,if_true,Sem.run_ite,run_sizeQ hsz]
theorem SOp.sliceStr [KN:Know] {P:Program} {n:Nat} {o:Oper} {N:St → Prop} {st:St} {t:TypeId} {x:Operand} {lo hi:Option Operand} (ho:o.op = .slice t x lo hi none) (ht:P.underlying t = some .string) {s:ByteArray}
  (hx:aeval st x = .lit (.string s)) (h:asl (lo.map (aeval st)) (hi.map (aeval st)) s.size (fun l r=>N (st.put o.dst (.lit (.string (s.extract l r)))))):SOp P n o N st:=by
 obtain ⟨l,r,hlr,hr,hN,hb⟩:=asl_ok (P:=P) h
 refine SOp.pure (fun I μ a w R=>⟨.string (s.extract l r),?_,.lit _ _⟩) hN
 have e1:=R.eval x; rw [hx] at e1
 have hb':=hb I μ a w R false s.size (Nat.le_refl _)
 simp only [execOp,ho,e1.lit_eq,Sem.run_bind,Option.map_none,run_sliceAt_string w t _ _ _ _ ht,Instr.slice,run_underQ ht,Result.andThen_ok,Option.isSome_none,Bool.false_eq_true,if_false,Sem.run_pure,hb']
theorem SOp.sliceVs [KN:Know] {P:Program} {n:Nat} {o:Oper} {N:St → Prop} {st:St} {t et:TypeId} {x:Operand} {lo hi:Option Operand} (ho:o.op = .slice t x lo hi none) (ht:P.underlying t = some (.slice et)) {s:Nat} (hsz:sizeQ P et = some s)
  {es:List AV} (hx:aeval st x = .vs s es) (h:asl (lo.map (aeval st)) (hi.map (aeval st)) es.length (fun l r=>N (st.put o.dst (.vs s ((es.drop l).take (r - l)))))):SOp P n o N st:=by
 obtain ⟨l,r,hlr,hr,hN,hb⟩:=asl_ok (P:=P) h
 refine SOp.pure (fun I μ a w R=>?_) hN
 have e1:=R.eval x; rw [hx] at e1
 obtain ⟨ad,cap,val,hv,hcap,_⟩:=e1.vs_inv
 rw [hv] at e1
 refine ⟨_,?_,e1.vs_cut hlr hr⟩
 have hb':=hb I μ a w R true cap hcap
 have he:P.elem t = et:=by simp [Program.elem,ht]
 simp only [execOp,ho,hv,Sem.run_bind,Option.map_none,run_sliceAt_slice w t _ _ _ _ (by rw [he]; exact ht),Instr.slice,run_underQ ht,Result.andThen_ok,hb',run_sizeQ hsz,Sem.run_pure,sliced]
theorem SOp.sliceRef [KN:Know] {P:Program} {n:Nat} {o:Oper} {N:St → Prop} {st:St} {t et:TypeId} {x:Operand} {lo hi:Option Operand} (ho:o.op = .slice t x lo hi none) (ht:P.underlying t = some (.slice et)) {s:Nat} (hsz:sizeQ P et = some s)
  {k off len:Nat} {es:List AV} (hx:aeval st x = .ref k off len) (hk:st.h[k]? = some (.arr s es)) (h:asl (lo.map (aeval st)) (hi.map (aeval st)) len (fun l r=>N (st.put o.dst (.ref k (off + l) (r - l))))):SOp P n o N st:=by
 obtain ⟨l,r,hlr,hr,hN,hb⟩:=asl_ok (P:=P) h
 refine SOp.pure (fun I μ a w R=>?_) hN
 have e1:=R.eval x; rw [hx] at e1
 have he:P.elem t = et:=by simp [Program.elem,ht]
 have run:∀ ad cap,a.eval x = .slice ad len cap → len ≤ cap → (execOp a.eval o).run P w = .ok (.value (sliced ad l r cap s)) w:=by
  intro ad cap hv hcap
  have hb':=hb I μ a w R true cap hcap
  simp only [execOp,ho,hv,Sem.run_bind,Option.map_none,run_sliceAt_slice w t _ _ _ _ (by rw [he]; exact ht),Instr.slice,run_underQ ht,Result.andThen_ok,hb',run_sizeQ hsz,Sem.run_pure,sliced]
 rcases Rel.ref R.heap hk e1 with ⟨e,rfl,rfl,rfl,hs⟩ | ⟨ad,l',e,rfl,hl⟩ | ⟨l',cap,val,hl,e,hcap,hle,hes,_⟩
 ·obtain rfl:r = 0:=by omega
  obtain rfl:l = 0:=by omega
  refine ⟨_,run _ _ e (by omega),?_⟩
  simpa [sliced] using RelV.ref0 (I:=I) (w:=w) μ k hs
 ·obtain rfl:r = 0:=by omega
  obtain rfl:l = 0:=by omega
  refine ⟨_,run _ _ e (by omega),?_⟩
  simpa [sliced] using RelV.refE (I:=I) (w:=w) μ k (off + 0) l' ad hl
 ·refine ⟨_,run _ _ e hcap,?_⟩
  unfold sliced
  by_cases hc:cap = l
  ·subst hc
   have:r - cap = 0:=by omega
   rw [if_pos rfl,this,Nat.sub_self]
   exact .refE _ _ _ l' _ hl
  ·rw [if_neg hc]
   simp only [Option.map_some,addr_add]
   have:=RelV.ref (I:=I) (w:=w) μ k (off + l) (r - l) (cap - l) l' hl (by omega) (by rw [hes]; rw [show off + l + (cap - l) = off + cap by omega]; exact hle)
   rw [hes,Nat.add_mul,← Nat.add_assoc] at this
   exact this
theorem SOp.lenStr [KN:Know] {P:Program} {n:Nat} {o:Oper} {N:St → Prop} {st:St} {t:TypeId} {x:Operand} (ho:o.op = .call { callee:=.builtin .len,args:=#[x],argTypes:=#[t] }) (ht:P.underlying t = some .string) {s:ByteArray}
  (hx:aeval st x = .lit (.string s)) (hN:N (st.put o.dst (.lit (.int .i64 s.size)))):SOp P n o N st:=by
 refine SOp.pure (fun I μ a w R=>⟨.int .i64 s.size,?_,.lit _ _⟩) hN
 have e1:=R.eval x; rw [hx] at e1
 have:=run_len_string (P:=P) w t o.type s ht
 simp only [execOp,ho,resolve,List.map_toArray,List.map_cons,List.map_nil,e1.lit_eq,pure_bind,invoke,builtin,Sem.run_bind,this,Result.andThen_ok,Sem.run_pure,goInt]
theorem run_lenSlice [_KN:Know] {P:Program} {w:World} {t et ty:TypeId} (ht:P.underlying t = some (.slice et)) {a:Option Addr} {len cap:Nat}:(Builtin.len_ #[t] ty #[.slice a len cap]).run P w = .ok (goInt len) w:=by
 simp [Builtin.len_,run_underQ ht]
def alen:AV → Option Nat
 | .nils=>some 0
 | .vs _ es=>some es.length
 | .ref _ _ len=>some len
 | _=>none
def usable (h:List AObj):AV → Bool
 | .ref k _ _=>match h[k]? with | some (.arr _ _)=>true | _=>false
 | _=>true
theorem alen_ok [KN:Know] {I:Nat → Prop} {μ:MM} {h:List AObj} {w:World} (H:RelH I μ h w) {av:AV} {m:Nat} (hm:alen av = some m) (hu:usable h av = true) {v:Value} (hv:RelV I w μ av v):∃ a cap,v = .slice a m cap:=by
 cases av <;> simp only [alen] at hm <;> try (cases hm; done)
 ·cases hm; cases hv; exact ⟨_,_,rfl⟩
 ·cases hm
  obtain ⟨a,cap,_,e,_⟩:=hv.vs_inv
  exact ⟨a,cap,e⟩
 ·rename_i k off len
  cases hm
  simp only [usable] at hu
  split at hu
  ·rename_i s es hk
   rcases Rel.ref H hk hv with ⟨e,rfl,rfl,_⟩ | ⟨ad,l,e,rfl,_⟩ | ⟨l,cap,val,hl,e,_⟩
   ·exact ⟨_,_,e⟩
   ·exact ⟨_,_,e⟩
   ·exact ⟨_,_,e⟩
  ·cases hu
theorem SOp.lenSlice [KN:Know] {P:Program} {n:Nat} {o:Oper} {N:St → Prop} {st:St} {t et:TypeId} {x:Operand} (ho:o.op = .call { callee:=.builtin .len,args:=#[x],argTypes:=#[t] }) (ht:P.underlying t = some (.slice et)) {m:Nat}
  (hm:alen (aeval st x) = some m) (hu:usable st.h (aeval st x) = true) (hN:N (st.put o.dst (.lit (.int .i64 m)))):SOp P n o N st:=by
 refine SOp.pure (fun I μ a w R=>⟨.int .i64 m,?_,.lit _ _⟩) hN
 obtain ⟨ad,cap,e⟩:=alen_ok R.heap hm hu (R.eval x)
 have:=run_lenSlice (P:=P) (w:=w) (ty:=o.type) (a:=ad) (len:=m) (cap:=cap) ht
 simp only [execOp,ho,resolve,List.map_toArray,List.map_cons,List.map_nil,e,pure_bind,invoke,builtin,Sem.run_bind,this,Result.andThen_ok,Sem.run_pure,goInt]
theorem SOp.max2 [KN:Know] {P:Program} {n:Nat} {o:Oper} {N:St → Prop} {st:St} {ts:Array TypeId} {x y:Operand} (ho:o.op = .call { callee:=.builtin .max,args:=#[x,y],argTypes:=ts }) {k k':IntKind} {a b:Int}
  (hx:aeval st x = .lit (.int k a)) (hy:aeval st y = .lit (.int k' b)) (hN:N (st.put o.dst (.lit (.int k (if b > a then b else a))))):SOp P n o N st:=by
 refine SOp.pure (fun I μ a w R=>⟨_,?_,.lit _ _⟩) hN
 have e1:=R.eval x; rw [hx] at e1
 have e2:=R.eval y; rw [hy] at e2
 simp only [execOp,ho,resolve,List.map_toArray,List.map_cons,List.map_nil,e1.lit_eq,e2.lit_eq,pure_bind,invoke,builtin,Sem.run_bind,run_max_int2,Result.andThen_ok,Sem.run_pure]
theorem SOp.min2 [KN:Know] {P:Program} {n:Nat} {o:Oper} {N:St → Prop} {st:St} {ts:Array TypeId} {x y:Operand} (ho:o.op = .call { callee:=.builtin .min,args:=#[x,y],argTypes:=ts }) {k k':IntKind} {a b:Int}
  (hx:aeval st x = .lit (.int k a)) (hy:aeval st y = .lit (.int k' b)) (hN:N (st.put o.dst (.lit (.int k (if b < a then b else a))))):SOp P n o N st:=by
 refine SOp.pure (fun I μ a w R=>⟨_,?_,.lit _ _⟩) hN
 have e1:=R.eval x; rw [hx] at e1
 have e2:=R.eval y; rw [hy] at e2
 simp only [execOp,ho,resolve,List.map_toArray,List.map_cons,List.map_nil,e1.lit_eq,e2.lit_eq,pure_bind,invoke,builtin,Sem.run_bind,run_min_int2,Result.andThen_ok,Sem.run_pure]
theorem SOp.move [KN:Know] {P:Program} {n:Nat} {o:Oper} {N:St → Prop} {st:St} {x:Operand} (ho:o.op = .move x ∨ o.op = .assign x) (hN:N (st.put o.dst (aeval st x))):SOp P n o N st:=by
 refine SOp.pure (fun I μ a w R=>⟨a.eval x,?_,R.eval x⟩) hN
 rcases ho with ho | ho <;> simp only [execOp,ho,Sem.run_pure]
theorem SOp.pick [KN:Know] {P:Program} {n:Nat} {o:Oper} {N:St → Prop} {st:St} {c x y:Operand} (ho:o.op = .pick c x y) {b:Bool} (hc:aeval st c = .lit (.bool b)) (h1:b = true → N (st.put o.dst (aeval st x)))
  (h2:b = false → N (st.put o.dst (aeval st y))):SOp P n o N st:=by
 cases b with
 | true =>
  refine SOp.pure (fun I μ a w R=>⟨a.eval x,?_,R.eval x⟩) (h1 rfl)
  have e1:=R.eval c; rw [hc] at e1
  simp [execOp,ho,e1.lit_eq,asBool]
 | false =>
  refine SOp.pure (fun I μ a w R=>⟨a.eval y,?_,R.eval y⟩) (h2 rfl)
  have e1:=R.eval c; rw [hc] at e1
  simp [execOp,ho,e1.lit_eq,asBool]
theorem SOp.un [KN:Know] {P:Program} {n:Nat} {o:Oper} {N:St → Prop} {st:St} {op:UnOp} {t:TypeId} {x:Operand} (ho:o.op = .unOp op t x) (h:aun op (aeval st x) (fun v=>N (st.put o.dst v))):SOp P n o N st:=by
 obtain ⟨av,hN,hr⟩:=aun_ok (P:=P) h
 refine SOp.pure (fun I μ a w R=>?_) hN
 obtain ⟨r,h1,h2⟩:=hr I w μ _ (R.eval x)
 exact ⟨r,by simp only [execOp,ho,Sem.run_bind,h1,Result.andThen_ok,Sem.run_pure],h2⟩
theorem SOp.extract [KN:Know] {P:Program} {n:Nat} {o:Oper} {N:St → Prop} {st:St} {x:Operand} {i:Nat} (ho:o.op = .extract x i) {vs:List AV} (hx:aeval st x = .tup vs) {v:AV} (hv:vs[i]? = some v) (hN:N (st.put o.dst v)):SOp P n o N st:=by
 refine SOp.pure (fun I μ a w R=>?_) hN
 have e1:=R.eval x; rw [hx] at e1
 obtain ⟨xs,e,hn,hr⟩:=e1.tup_inv
 have hi:i < vs.length:=by
  rcases Nat.lt_or_ge i vs.length with h1 | h1
  ·exact h1
  ·rw [List.getElem?_eq_none h1] at hv; cases hv
 rw [List.getElem?_eq_getElem hi] at hv
 cases hv
 have:=hr i hi
 rw [getD_of (by omega)] at this
 refine ⟨_,?_,this⟩
 simp only [execOp,ho,e,Sem.run_bind,Instr.extract]
 rw [Array.getElem?_eq_getElem (by omega)]
 rfl
theorem SOp.field [KN:Know] {P:Program} {n:Nat} {o:Oper} {N:St → Prop} {st:St} {t:TypeId} {x:Operand} {f:Nat} (ho:o.op = .field t x f) {cs:List AV} (hx:aeval st x = .agg cs) {v:AV} (hv:afield P t cs f = some v) (hN:N (st.put o.dst v)):SOp P n o N st:=by
 refine SOp.pure (fun I μ a w R=>?_) hN
 have e1:=R.eval x; rw [hx] at e1
 obtain ⟨r,h1,h2⟩:=afield_ok hv e1
 exact ⟨r,by simp only [execOp,ho,Sem.run_bind,h1,Result.andThen_ok,Sem.run_pure],h2⟩
def aplace (P:Program) (t:TypeId) (f:Nat):Option Nat :=
 match P.underlying t with
 | some (.struct fs)=>match fs[f]? with
  | some fl=>match sizeQ P fl.type with
   | some 0=>none
   | some _=>some fl.offset
   | none=>none
  | none=>none
 | _=>none
theorem aplace_ok [_KN:Know] {P:Program} {w:World} {t:TypeId} {f off b base:Nat} (h:aplace P t f = some off):(Instr.fieldAt t (.pointer (some ⟨b,base,none⟩)) f).run P w = .ok (.pointer (some ⟨b,base + off,none⟩)) w:=by
 unfold aplace at h
 split at h
 ·rename_i fs hu
  split at h
  ·rename_i fl hf
   split at h
   ·cases h
   ·rename_i m hne hs
    cases h
    have hm:m ≠ 0:=by rintro rfl; exact hne rfl
    simp only [Instr.fieldAt,Sem.run_bind,run_underQ hu,Result.andThen_ok,hf,Instr.sureAddr,Sem.run_pure,fieldPlace,run_sizeQ hs,hm,if_false,Sem.run_ite,addr_add]
   ·cases h
  ·cases h
 ·cases h
theorem RelV.ptr_inv {I:Nat → Prop} {w:World} {μ:MM} {k j:Nat} {v:Value} (h:RelV I w μ (.ptr k j) v):(∃ l,μ.loc k = some l ∧ v = .pointer (some ⟨l.block,l.base + j,none⟩)) ∨ μ[k]? = some .gone:=by
 cases h with
 | ptr _ _ _ l hl=>exact .inl ⟨l,hl,rfl⟩
 | ptrX _ _ _ _ hl=>exact .inr hl
theorem RelV.eptr_inv {I:Nat → Prop} {w:World} {μ:MM} {k i j:Nat} {v:Value} (h:RelV I w μ (.eptr k i j) v):(∃ l,μ.loc k = some l ∧ v = .pointer (some ⟨l.block,l.base + i * l.esz + j,none⟩)) ∨ μ[k]? = some .gone:=by
 cases h with
 | eptr _ _ _ _ l hl=>exact .inl ⟨l,hl,rfl⟩
 | eptrX _ _ _ _ _ hl=>exact .inr hl
theorem SOp.fieldPtr [KN:Know] {P:Program} {n:Nat} {o:Oper} {N:St → Prop} {st:St} {t:TypeId} {x:Operand} {f off:Nat} (ho:o.op = .fieldAddr t x f) (hf:aplace P t f = some off) {k j:Nat} {ob:AObj}
  (hx:aeval st x = .ptr k j) (hk:st.h[k]? = some ob) (hne:ob ≠ .dead) (hN:N (st.put o.dst (.ptr k (j + off)))):SOp P n o N st:=by
 refine SOp.pure (fun I μ a w R=>?_) hN
 have e1:=R.eval x; rw [hx] at e1
 rcases e1.ptr_inv with ⟨l,hl,e⟩ | hg
 ·refine ⟨.pointer (some ⟨l.block,l.base + (j + off),none⟩),?_,.ptr _ _ _ l hl⟩
  simp only [execOp,ho,e,Sem.run_bind,aplace_ok hf,Result.andThen_ok,Sem.run_pure,Nat.add_assoc]
 ·obtain ⟨y,hy,hO⟩:=Rel.slot R.heap hk
  rw [hg] at hy; cases hy
  exact absurd hO.not_gone hne
theorem SOp.fieldEptr [KN:Know] {P:Program} {n:Nat} {o:Oper} {N:St → Prop} {st:St} {t:TypeId} {x:Operand} {f off:Nat} (ho:o.op = .fieldAddr t x f) (hf:aplace P t f = some off) {k i j:Nat} {ob:AObj}
  (hx:aeval st x = .eptr k i j) (hk:st.h[k]? = some ob) (hne:ob ≠ .dead) (hN:N (st.put o.dst (.eptr k i (j + off)))):SOp P n o N st:=by
 refine SOp.pure (fun I μ a w R=>?_) hN
 have e1:=R.eval x; rw [hx] at e1
 rcases e1.eptr_inv with ⟨l,hl,e⟩ | hg
 ·refine ⟨.pointer (some ⟨l.block,l.base + i * l.esz + (j + off),none⟩),?_,.eptr _ _ _ _ l hl⟩
  simp only [execOp,ho,e,Sem.run_bind,aplace_ok hf,Result.andThen_ok,Sem.run_pure,Nat.add_assoc]
 ·obtain ⟨y,hy,hO⟩:=Rel.slot R.heap hk
  rw [hg] at hy; cases hy
  exact absurd hO.not_gone hne
theorem acut_cells {P:Program} {t:TypeId} {cs:List AV} {off:Nat} {c:AV} (h:acut P t cs off = some c) (hc:aggQ P t = some true ∨ c.isAgg = false) :
  off + c.cells.length ≤ cs.length ∧ ∀ j (hj:j < c.cells.length) (hj':off + j < cs.length),c.cells[j] = cs[off + j]:=by
 unfold acut at h
 split at h
 ·split at h
  ·cases h
   refine ⟨by simp [AV.cells]; omega,fun j hj hj'=>by simp [AV.cells]⟩
  ·cases h
 ·rename_i ha
  have hlt:off < cs.length:=by
   rcases Nat.lt_or_ge off cs.length with h1 | h1
   ·exact h1
   ·rw [List.getElem?_eq_none h1] at h; cases h
  rw [List.getElem?_eq_getElem hlt] at h
  obtain rfl:=Option.some.inj h
  rcases hc with h1 | h1
  ·rw [ha] at h1; cases h1
  ·have hcells:(cs[off]).cells = [cs[off]]:=by
    generalize cs[off] = c at h1
    cases c <;> first | rfl | cases h1
   refine ⟨by rw [hcells]; exact hlt,fun j hj hj'=>?_⟩
   have:j = 0:=by rw [hcells] at hj; simpa using hj
   subst this
   simp [hcells]
 ·cases h
def aifield (P:Program) (t:TypeId) (cs:List AV) (f:Nat):Option AV :=
 match P.underlying t with
 | some (.struct fs)=>match fs[f]? with
  | some fl=>match aggQ P fl.type,acut P fl.type cs fl.offset with
   | some true,some c=>some c
   | some false,some c=>if c.isAgg then none else some c
   | _,_=>none
  | none=>none
 | _=>none
theorem SOp.fieldIptr [KN:Know] {P:Program} {n:Nat} {o:Oper} {N:St → Prop} {st:St} {t:TypeId} {x:Operand} {f off:Nat} (ho:o.op = .fieldAddr t x f) (hf:aplace P t f = some off) {cs:List AV} {c:AV}
  (hx:aeval st x = .iptr (.agg cs)) (hc:aifield P t cs f = some c) (hN:N (st.put o.dst (.iptr c))):SOp P n o N st:=by
 refine SOp.pure (fun I μ a w R=>?_) hN
 have e1:=R.eval x; rw [hx] at e1
 obtain ⟨b,base,val,e,hI,hcell,hr⟩:=e1.iptr_inv
 refine ⟨.pointer (some ⟨b,base + off,none⟩),?_,?_⟩
 ·simp only [execOp,ho,e,Sem.run_bind,aplace_ok hf,Result.andThen_ok,Sem.run_pure]
 ·have key:off + c.cells.length ≤ cs.length ∧ ∀ j (hj:j < c.cells.length) (hj':off + j < cs.length),c.cells[j] = cs[off + j]:=by
   unfold aplace at hf
   unfold aifield at hc
   split at hf
   ·rename_i fs hu
    rw [hu] at hc
    simp only at hc
    split at hf
    ·rename_i fl hfl
     rw [hfl] at hc
     simp only at hc
     split at hf
     ·cases hf
     ·cases hf
      split at hc
      ·rename_i ha hcut
       cases hc
       exact acut_cells hcut (.inl ha)
      ·rename_i ha hcut
       split at hc
       ·cases hc
       ·rename_i hn
        cases hc
        exact acut_cells hcut (.inr (by simpa using hn))
      ·cases hc
     ·cases hf
    ·cases hf
   ·cases hf
  obtain ⟨h1,h2⟩:=key
  have hcs:(AV.agg cs).cells = cs:=rfl
  refine .iptr μ c b (base + off) (fun j=>val (off + j)) hI (fun j hj=>?_) (fun j hj=>?_)
  ·rw [Nat.add_assoc]; exact hcell (off + j) (by rw [hcs]; omega)
  ·rw [h2 j hj (by omega)]
   exact hr (off + j) (by rw [hcs]; omega)
theorem SOp.convInt [KN:Know] {P:Program} {n:Nat} {o:Oper} {N:St → Prop} {st:St} {s t:TypeId} {x:Operand} (ho:o.op = .convert s t x) {sd:TypeDesc} (hs:P.underlying s = some sd) {k k':IntKind} (ht:P.underlying t = some (.int k)) {i:Int}
  (hx:aeval st x = .lit (.int k' i)) (hN:N (st.put o.dst (.lit (.int k (k.wrap i))))):SOp P n o N st:=by
 refine SOp.pure (fun I μ a w R=>⟨.int k (k.wrap i),?_,.lit _ _⟩) hN
 have e1:=R.eval x; rw [hx] at e1
 simp [execOp,ho,e1.lit_eq,convert,run_underQ hs,run_underQ ht,Conv.intToInt]
theorem SOp.convStr [KN:Know] {P:Program} {n:Nat} {o:Oper} {N:St → Prop} {st:St} {s t:TypeId} {x:Operand} (ho:o.op = .convert s t x) {sd:TypeDesc} (hs:P.underlying s = some sd) (ht:P.underlying t = some .string) {b:ByteArray}
  (hx:aeval st x = .lit (.string b)) (hN:N (st.put o.dst (.lit (.string b)))):SOp P n o N st:=by
 refine SOp.pure (fun I μ a w R=>⟨.string b,?_,.lit _ _⟩) hN
 have e1:=R.eval x; rw [hx] at e1
 simp [execOp,ho,e1.lit_eq,convert,run_underQ hs,run_underQ ht]
def ofInts (ns:List Int):ByteArray:=⟨(ns.map fun n=>UInt8.ofNat n.toNat).toArray⟩
theorem foldl_ofInts (ns:List Int):∀ b:ByteArray,ns.foldl (fun r n=>r.push (UInt8.ofNat n.toNat)) b = ⟨b.data ++ (ns.map fun n=>UInt8.ofNat n.toNat).toArray⟩:=by
 induction ns with
 | nil=>intro b; simp
 | cons x xs ih =>
  intro b
  rw [List.foldl_cons,ih]
  congr 1
  apply Array.ext'
  simp [ByteArray.push]
theorem SOp.convBytes [KN:Know] {P:Program} {n:Nat} {o:Oper} {N:St → Prop} {st:St} {s t e:TypeId} {x:Operand} (ho:o.op = .convert s t x) (hs:P.underlying s = some (.slice e)) (he:P.underlying e = some (.int .u8)) (ht:P.underlying t = some .string)
  {ns:List Int} (hsrc:Src P st x 1 (ns.map fun n=>.lit (.int .u8 n))) (hal:∃ m,alen (aeval st x) = some m) (hu:usable st.h (aeval st x) = true) (hN:N (st.put o.dst (.lit (.string (ofInts ns))))):SOp P n o N st:=by
 refine SOp.pure (fun I μ a w R=>⟨.string (ofInts ns),?_,.lit _ _⟩) hN
 obtain ⟨m,hm⟩:=hal
 obtain ⟨ad,cap,ev⟩:=alen_ok R.heap hm hu (R.eval x)
 obtain ⟨val,hE,hlen,hfc,_⟩:=hsrc I μ a w R
 rw [ev] at hlen hfc
 have hml:m = ns.length:=by
  simp [Builtin.lenOf] at hlen; exact hlen
 subst hml
 have h1:=hfc ns.length (by simp) w rfl
 have hvals:rowVals ns.length 1 val = ns.map (Value.int .u8):=by
  apply List.ext_getElem
  ·simp [rowVals]
  ·intro i h1 h2
   simp only [List.length_map] at h2
   have:=hE.2 i (by simpa using h2) 0 (by simp [AV.cells])
   simp only [List.getElem_map,AV.cells,List.getElem_cons_zero] at this
   simp only [rowVals,List.getElem_map,List.getElem_range,Nat.div_one,Nat.mod_one,Nat.mul_one]
   exact this.lit_eq
 rw [hvals] at h1
 simp only [execOp,ho,ev,Sem.run_bind,run_convert_bytes_string w s t e _ _ _ hs he ht]
 cases ad with
 | none =>
  simp [Builtin.firstCells] at h1
  have:ns = []:=by simpa using h1
  subst this
  simp [Conv.bytesToString,ofInts]; rfl
 | some p =>
  simp only [Builtin.firstCells,Nat.mul_one] at h1
  rw [run_bytesToString w p ns.length cap ns h1,foldl_ofInts]
  simp [ofInts]
theorem SOp.nilCheck [KN:Know] {P:Program} {n:Nat} {o:Oper} {N:St → Prop} {st:St} {x:Operand} (ho:o.op = .nilCheck x) {k j:Nat} {ob:AObj} (hx:aeval st x = .ptr k j) (hk:st.h[k]? = some ob) (hne:ob ≠ .dead)
  (hN:N (st.put o.dst (.ptr k j))):SOp P n o N st:=by
 refine SOp.pure (fun I μ a w R=>?_) hN
 have e1:=R.eval x; rw [hx] at e1
 rcases e1.ptr_inv with ⟨l,hl,e⟩ | hg
 ·exact ⟨.pointer (some ⟨l.block,l.base + j,none⟩),by simp [execOp,ho,e],.ptr _ _ _ l hl⟩
 ·obtain ⟨y,hy,hO⟩:=Rel.slot R.heap hk
  rw [hg] at hy; cases hy
  exact absurd hO.not_gone hne
theorem SOp.nilCheckE [KN:Know] {P:Program} {n:Nat} {o:Oper} {N:St → Prop} {st:St} {x:Operand} (ho:o.op = .nilCheck x) {k i j:Nat} {ob:AObj} (hx:aeval st x = .eptr k i j) (hk:st.h[k]? = some ob) (hne:ob ≠ .dead)
  (hN:N (st.put o.dst (.eptr k i j))):SOp P n o N st:=by
 refine SOp.pure (fun I μ a w R=>?_) hN
 have e1:=R.eval x; rw [hx] at e1
 rcases e1.eptr_inv with ⟨l,hl,e⟩ | hg
 ·exact ⟨_,by simp [execOp,ho,e],.eptr _ _ _ _ l hl⟩
 ·obtain ⟨y,hy,hO⟩:=Rel.slot R.heap hk
  rw [hg] at hy; cases hy
  exact absurd hO.not_gone hne
theorem SOp.nilCheckI [KN:Know] {P:Program} {n:Nat} {o:Oper} {N:St → Prop} {st:St} {x:Operand} (ho:o.op = .nilCheck x) {c:AV} (hx:aeval st x = .iptr c) (hN:N (st.put o.dst (.iptr c))):SOp P n o N st:=by
 refine SOp.pure (fun I μ a w R=>?_) hN
 have e1:=R.eval x; rw [hx] at e1
 obtain ⟨b,off,val,e,_⟩:=e1.iptr_inv
 rw [e] at e1
 exact ⟨_,by simp only [execOp,ho,e,Sem.run_pure],e1⟩
theorem SOp.makeFunc [KN:Know] {P:Program} {n:Nat} {o:Oper} {N:St → Prop} {st:St} {f:Fn} {first captured:Array Operand} (ho:o.op = .makeFunc f first captured)
  (hN:N (st.put o.dst (.fn f (first.toList.map (aeval st)) (captured.toList.map (aeval st))))):SOp P n o N st:=by
 refine SOp.pure (fun I μ a w R=>⟨.func f (first.map a.eval) (captured.map a.eval),?_,?_⟩) hN
 ·simp only [execOp,ho,Instr.makeFunc,Sem.run_bind,Sem.run_pure,Result.andThen_ok]
 ·have key:∀ xs:Array Operand,∀ i (hi:i < (xs.toList.map (aeval st)).length),RelV I w μ (xs.toList.map (aeval st))[i] ((xs.map a.eval).getD i Go.undef):=by
   intro xs i hi
   simp only [List.length_map,Array.length_toList] at hi
   rw [getD_of (by simpa using hi)]
   simpa using R.eval xs[i]
  exact .fn _ _ _ _ _ _ (by simp) (by simp) (key first) (key captured)
end Go.Q
namespace Go.Q
open Go
theorem SOp.box [KN:Know] {P:Program} {n:Nat} {o:Oper} {N:St → Prop} {st:St} {t:TypeId} {x:Operand} (ho:o.op = .box t x) (hc:cellsQ st.h (aeval st x) = true)
  (hN:N (({ st with h:=st.h ++ [.box (aeval st x).cells] }:St).put o.dst (.ptr st.h.length 0))):SOp P n o N st:=by
 refine SOp.newBox (fun I μ a w R=>?_) hN
 obtain ⟨h1,h2,h3⟩:=cellsQ_ok R.heap hc (R.eval x)
 exact ⟨(a.eval x).cells,t,by simp [execOp,ho,Instr.box,newVar,newRow],h1,h3⟩
def azero (P:Program) (t:TypeId):Option (List AV) :=
 match P.info? t with
 | some i=>match i.zero with
  | some z=>some (z.cells.toList.map constCell)
  | none=>none
 | none=>none
theorem rel_zero [_KN:Know] {I:Nat → Prop} {w:World} {μ:MM} {xs:Array Value} (j:Nat) (hj:j < (xs.toList.map constCell).length):RelV I w μ (xs.toList.map constCell)[j] (xs.getD j Go.undef):=by
 have hj':j < xs.size:=by simpa using hj
 rw [getD_of hj']
 simp only [List.getElem_map,Array.getElem_toList]
 exact rel_constCell _
theorem SOp.alloc [KN:Know] {P:Program} {n:Nat} {o:Oper} {N:St → Prop} {st:St} {t:TypeId} (ho:o.op = .alloc t) {cs:List AV} (hz:azero P t = some cs)
  (hN:N (({ st with h:=st.h ++ [.box cs] }:St).put o.dst (.ptr st.h.length 0))):SOp P n o N st:=by
 refine SOp.newBox (fun I μ a w R=>?_) hN
 unfold azero at hz
 split at hz
 ·rename_i i hi
  split at hz
  ·rename_i z hiz
   cases hz
   exact ⟨z.cells,t,by simp [execOp,ho,Instr.alloc,zeroValue,typeInfo,hi,hiz,newVar,newRow],by simp,fun j hj=>rel_zero j hj⟩
  ·cases hz
 ·cases hz
def afill (place:Nat → Option (Nat × Nat)) (cs:List AV):List (Nat × AV) → Option (List AV)
 | []=>some cs
 | (i,v) :: rest=>match place i with
  | none=>none
  | some (off,size)=>if v.cells.length = size ∧ off + size ≤ cs.length then afill place (splice cs off v.cells) rest else none
theorem foldl_set (off:Nat):∀ (xs:List Value) (k:Nat) (cs:Array Value),off + k + xs.length ≤ cs.size →
  ((xs.zipIdx k).foldl (fun cs (p:Value × Nat)=>cs.setIfInBounds (off + p.2) p.1) cs).size = cs.size ∧
  ∀ q,((xs.zipIdx k).foldl (fun cs (p:Value × Nat)=>cs.setIfInBounds (off + p.2) p.1) cs)[q]? = if off + k ≤ q ∧ q < off + k + xs.length then xs[q - (off + k)]? else cs[q]?:=by
 intro xs
 induction xs with
 | nil=>intro k cs _; exact ⟨rfl,fun q=>by rw [if_neg (by simp only [List.length_nil]; omega)]; rfl⟩
 | cons x xs ih =>
  intro k cs h
  simp only [List.length_cons] at h
  obtain ⟨h1,h2⟩:=ih (k + 1) (cs.setIfInBounds (off + k) x) (by simp; omega)
  simp only [List.zipIdx_cons,List.foldl_cons]
  refine ⟨by rw [h1]; simp,fun q=>?_⟩
  rw [h2 q]
  simp only [List.length_cons]
  by_cases e:q = off + k
  ·subst e
   rw [if_neg (by omega),if_pos (by omega),Array.getElem?_setIfInBounds_self_of_lt (by omega)]
   simp
  ·by_cases e2:off + (k + 1) ≤ q ∧ q < off + (k + 1) + xs.length
   ·rw [if_pos e2,if_pos (by omega),show q - (off + k) = (q - (off + (k + 1))) + 1 by omega]
    simp
   ·rw [if_neg e2,if_neg (by omega),Array.getElem?_setIfInBounds_ne (by omega)]
theorem afill_ok [KN:Know] {I:Nat → Prop} {μ:MM} {h:List AObj} {w:World} (H:RelH I μ h w) (place:Nat → Option (Nat × Nat)):∀ (ps:List (Nat × AV)) (vs:List (Nat × Value)) (cs cs':List AV) (xs:Array Value),
  afill place cs ps = some cs' → ps.length = vs.length → (∀ i (h1:i < ps.length) (h2:i < vs.length),(ps[i]).1 = (vs[i]).1 ∧ RelV I w μ (ps[i]).2 (vs[i]).2) → (∀ p ∈ ps,cellsQ h p.2 = true) →
  xs.size = cs.length → (∀ j (hj:j < cs.length),RelV I w μ cs[j] (xs.getD j Go.undef)) →
  ∃ xs',Instr.fill place xs vs = some xs' ∧ xs'.size = cs'.length ∧ cs'.length = cs.length ∧ ∀ j (hj:j < cs'.length),RelV I w μ cs'[j] (xs'.getD j Go.undef):=by
 intro ps
 induction ps with
 | nil =>
  intro vs cs cs' xs hf hl _ _ hx hr
  obtain rfl:vs = []:=by cases vs <;> simp_all
  cases hf
  exact ⟨xs,rfl,hx,rfl,hr⟩
 | cons p ps ih =>
  intro vs cs cs' xs hf hl hv hq hx hr
  cases vs with
  | nil=>simp at hl
  | cons v vs =>
   obtain ⟨i,pv⟩:=p
   obtain ⟨i',vv⟩:=v
   have h0:=hv 0 (by simp) (by simp)
   simp only [List.getElem_cons_zero] at h0
   obtain ⟨rfl,h0⟩:=h0
   simp only [afill] at hf
   cases hp:place i with
   | none=>rw [hp] at hf; cases hf
   | some os =>
    obtain ⟨off,size⟩:=os
    rw [hp] at hf
    simp only at hf
    split at hf
    ·rename_i hc
     obtain ⟨hc1,hc2⟩:=hc
     subst hc1
     have q0:=cellsQ_ok H (c:=pv) (hq (i,pv) (by simp)) h0
     obtain ⟨q1,q2,q3⟩:=q0
     obtain ⟨s1,s2⟩:=foldl_set off vv.cells.toList 0 xs (by simp only [Array.length_toList,q1]; omega)
     have harr:vv.cells.zipIdx.foldl (fun cs (c,j)=>cs.setIfInBounds (off + j) c) xs = (vv.cells.toList.zipIdx 0).foldl (fun cs (p:Value × Nat)=>cs.setIfInBounds (off + p.2) p.1) xs:=by
      rw [← Array.foldl_toList,Array.toList_zipIdx]
     have hsl:=splice_length hc2
     obtain ⟨xs',f1,f2,f3,f4⟩:=ih vs (splice cs off pv.cells) cs' (vv.cells.zipIdx.foldl (fun cs (c,j)=>cs.setIfInBounds (off + j) c) xs) hf (by simpa using hl)
      (fun k h1 h2=>by
       have h3:=hv (k + 1) (by simp; omega) (by simp; omega)
       simp only [List.getElem_cons_succ] at h3
       exact h3) (fun p hp=>hq p (by simp [hp])) (by rw [harr,s1,hsl,hx]) (fun j hj=>by
       rw [harr]
       have hj2:j < cs.length:=by rw [hsl] at hj; exact hj
       rw [getD_of (by rw [s1]; omega)]
       have hs2:=s2 j
       rw [Array.getElem?_eq_getElem (by rw [s1]; omega)] at hs2
       rcases splice_get hc2 j hj with ⟨k1,k2,k3⟩ | ⟨k1,k2,k3⟩
       ·rw [k3]
        rw [if_pos (by simp only [Array.length_toList,q1]; omega)] at hs2
        have hlt:j - off < vv.cells.size:=by omega
        have h5:=q3 (j - off) k1
        rw [getD_of hlt] at h5
        have e:vv.cells.toList[j - (off + 0)]? = some (vv.cells[j - off]):=by simp [hlt]
        rw [e] at hs2
        rw [Option.some.inj hs2]
        exact h5
       ·rw [k3]
        rw [if_neg (by simp only [Array.length_toList,q1]; omega)] at hs2
        have h5:=hr j k2
        rw [getD_of (by omega)] at h5
        rw [Array.getElem?_eq_getElem (by omega)] at hs2
        rw [Option.some.inj hs2]
        exact h5)
     refine ⟨xs',?_,f2,by rw [f3,hsl],f4⟩
     simp only [Instr.fill,hp]
     rw [if_neg (by simp [q1]; omega)]
     exact f1
    ·cases hf
def abuild (P:Program) (t:TypeId) (ps:List (Nat × AV)):Option (List AV) :=
 match azero P t,P.underlying t with
 | some cs,some (.array _ e)=>match sizeQ P e with
  | some s=>afill (fun i=>some (i * s,s)) cs ps
  | none=>none
 | some cs,some (.struct fields)=>match fields.toList.mapM (fun f=>(P.info? f.type).map fun i=>(f.offset,i.size)) with
  | some places=>afill (places.toArray[·]?) cs ps
  | none=>none
 | _,_=>none
theorem SOp.build [KN:Know] {P:Program} {n:Nat} {o:Oper} {N:St → Prop} {st:St} {t:TypeId} {parts:Array (Nat × Operand)} (ho:o.op = .build t parts) {cs:List AV}
  (hb:abuild P t (parts.toList.map fun p=>(p.1,aeval st p.2)) = some cs) (hq:∀ p ∈ parts.toList,cellsQ st.h (aeval st p.2) = true) (hN:N (st.put o.dst (.agg cs))):SOp P n o N st:=by
 refine SOp.pure (fun I μ a w R=>?_) hN
 have key:∃ cells,P.built t (parts.toList.map fun p=>(p.1,a.eval p.2)) = some cells ∧ cells.size = cs.length ∧ ∀ j (hj:j < cs.length),RelV I w μ cs[j] (cells.getD j Go.undef):=by
  unfold abuild at hb
  unfold Program.built
  have hzero:∀ zs,azero P t = some zs → ∃ i z,P.info? t = some i ∧ i.zero = some z ∧ zs = z.cells.toList.map constCell:=by
   intro zs hz
   unfold azero at hz
   split at hz
   ·rename_i i hi
    split at hz
    ·rename_i z hiz; cases hz; exact ⟨i,z,hi,hiz,rfl⟩
    ·cases hz
   ·cases hz
  have fin:∀ place zs (z:Value),zs = z.cells.toList.map constCell → afill place zs (parts.toList.map fun p=>(p.1,aeval st p.2)) = some cs →
    ∃ cells,Instr.fill place z.cells (parts.toList.map fun p=>(p.1,a.eval p.2)) = some cells ∧ cells.size = cs.length ∧ ∀ j (hj:j < cs.length),RelV I w μ cs[j] (cells.getD j Go.undef):=by
   intro place zs z e hf
   subst e
   obtain ⟨xs',f1,f2,_,f4⟩:=afill_ok R.heap place _ (parts.toList.map fun p=>(p.1,a.eval p.2)) _ cs z.cells hf (by simp) (fun i h1 h2=>by simp; exact R.eval _) (fun p hp=>by
    simp only [List.mem_map] at hp
    obtain ⟨q,hq1,rfl⟩:=hp
    exact hq q hq1) (by simp) (fun j hj=>rel_zero j hj)
   exact ⟨xs',f1,f2,f4⟩
  split at hb
  ·rename_i zs _ e hz hu
   obtain ⟨i,z,hi,hiz,rfl⟩:=hzero zs hz
   split at hb
   ·rename_i s hs
    unfold sizeQ at hs
    cases hie:P.info? e with
    | none=>rw [hie] at hs; cases hs
    | some ie =>
     rw [hie] at hs
     simp only [Option.map_some,Option.some.injEq] at hs
     subst hs
     simp only [hi,hu,hiz,hie]
     exact fin _ _ z rfl hb
   ·cases hb
  ·rename_i zs fields hz hu
   obtain ⟨i,z,hi,hiz,rfl⟩:=hzero zs hz
   split at hb
   ·rename_i places hp
    simp only [hi,hu,hiz,hp]
    exact fin _ _ z rfl hb
   ·cases hb
  ·cases hb
 obtain ⟨cells,h1,h2,h3⟩:=key
 refine ⟨.agg cells,?_,.agg _ _ _ h2 h3⟩
 have hmap:(parts.map fun (i,x)=>(i,a.eval x)).toList = parts.toList.map fun p=>(p.1,a.eval p.2):=by simp
 have:=run_build (P:=P) w t (parts.map fun (i,x)=>(i,a.eval x)) cells (by rw [hmap]; exact h1)
 simp only [execOp,ho,Sem.run_bind,this,Result.andThen_ok,Sem.run_pure]
end Go.Q
namespace Go.Q
open Go
theorem relH_nil [KN:Know] {I:Nat → Prop} {w:World} (h:∀ b,I b → b < w.heap.size) (hk:Knows I w):RelH I [] [] w :=
 ⟨rfl,fun o ob x h=>by simp at h,fun b ⟨o,l,h,_⟩=>by simp [MM.loc] at h,fun o o' l l' h=>by simp [MM.loc] at h,h,hk⟩
def flat (es:List AV):List AV:=es.flatMap AV.cells
theorem flat_length {s:Nat}:∀ {es:List AV},(∀ e ∈ es,e.cells.length = s) → (flat es).length = es.length * s
 | [],_=>by simp [flat]
 | e :: es,h=>by
  have ih:=flat_length (s:=s) (es:=es) (fun x hx=>h x (by simp [hx]))
  have h0:=h e (by simp)
  simp only [flat] at ih ⊢
  simp only [List.flatMap_cons,List.length_append,ih,h0,List.length_cons,Nat.add_mul,Nat.one_mul]
  omega
theorem flat_get {s:Nat}:∀ {es:List AV},(∀ e ∈ es,e.cells.length = s) → ∀ i (hi:i < es.length) j (hj:j < (es[i]).cells.length),(flat es)[i * s + j]? = some ((es[i]).cells[j])
 | [],_,i,hi,_,_=>by simp at hi
 | e :: es,h,i,hi,j,hj=>by
  have h0:=h e (by simp)
  cases i with
  | zero =>
   simp only [List.getElem_cons_zero] at hj ⊢
   simp only [flat,List.flatMap_cons,Nat.zero_mul,Nat.zero_add]
   rw [List.getElem?_append_left hj,List.getElem?_eq_getElem hj]
  | succ i =>
   simp only [List.getElem_cons_succ] at hj ⊢
   have ih:=flat_get (s:=s) (es:=es) (fun x hx=>h x (by simp [hx])) i (by simpa using hi) j hj
   simp only [flat,List.flatMap_cons] at ih ⊢
   rw [List.getElem?_append_right (by rw [h0,Nat.add_mul]; omega),h0,← ih]
   congr 1
   rw [Nat.add_mul]; omega
theorem flat_set {s:Nat}:∀ {es:List AV},(∀ e ∈ es,e.cells.length = s) → ∀ i,i < es.length → ∀ v:AV,v.cells.length = s → splice (flat es) (i * s) v.cells = flat (es.set i v)
 | [],_,i,hi,_,_=>by simp at hi
 | e :: es,h,i,hi,v,hv=>by
  have h0:=h e (by simp)
  cases i with
  | zero =>
   simp only [splice,flat,Nat.zero_mul,List.flatMap_cons,List.set_cons_zero,List.take_zero,List.nil_append,Nat.zero_add,hv]
   rw [← h0,List.drop_left]
  | succ i =>
   have ih:=flat_set (s:=s) (es:=es) (fun x hx=>h x (by simp [hx])) i (by simpa using hi) v hv
   simp only [splice,flat,List.flatMap_cons,List.set_cons_succ] at ih ⊢
   rw [← ih]
   have e1:(i + 1) * s = e.cells.length + i * s:=by rw [h0,Nat.add_mul]; omega
   rw [e1,List.take_append,List.take_of_length_le (by omega),Nat.add_sub_cancel_left,List.drop_append,List.drop_of_length_le (by omega),List.nil_append]
   rw [show e.cells.length + i * s + v.cells.length - e.cells.length = i * s + v.cells.length by omega]
   simp [List.append_assoc]
def setElems (s:Nat):List AV → List (Nat × AV) → Option (List AV)
 | es,[]=>some es
 | es,(i,v) :: r=>if i < es.length ∧ v.cells.length = s then setElems s (es.set i v) r else none
theorem setElems_fill [_KN:Know] {s:Nat}:∀ (ps:List (Nat × AV)) (es es':List AV),(∀ e ∈ es,e.cells.length = s) → setElems s es ps = some es' →
  afill (fun i=>some (i * s,s)) (flat es) ps = some (flat es') ∧ (∀ e ∈ es',e.cells.length = s) ∧ es'.length = es.length:=by
 intro ps
 induction ps with
 | nil=>intro es es' h he; cases he; exact ⟨rfl,h,rfl⟩
 | cons p ps ih =>
  intro es es' h he
  obtain ⟨i,v⟩:=p
  simp only [setElems] at he
  split at he
  ·rename_i hc
   obtain ⟨h1,h2⟩:=hc
   obtain ⟨k1,k2,k3⟩:=ih (es.set i v) es' (fun e he=>by
    rcases List.mem_or_eq_of_mem_set he with h3 | rfl
    ·exact h e h3
    ·exact h2) he
   refine ⟨?_,k2,by rw [k3]; simp⟩
   have hle:i * s + s ≤ (flat es).length:=by
    rw [flat_length h]
    have:(i + 1) * s ≤ es.length * s:=Nat.mul_le_mul_right _ h1
    rwa [Nat.add_mul,Nat.one_mul] at this
   simp only [afill]
   rw [if_pos ⟨h2,hle⟩,flat_set h i h1 v h2]
   exact k1
  ·cases he
theorem constAV_cells (z:Value) (h:∀ x ∈ z.cells.toList,x.oneCell' = true):(constAV z).cells = z.cells.toList.map constCell:=by
 unfold constAV
 split
 ·simp [AV.cells,Value.cells]
 ·rename_i hne
  have hz:z.cells = #[z]:=by
   cases z <;> first | rfl | (exfalso; exact hne _ rfl)
  rw [hz]
  simp only [List.map_cons,List.map_nil]
  unfold constCell
  split <;> rfl
theorem flat_rel [_KN:Know] {I:Nat → Prop} {w:World} {s:Nat} {es:List AV} {cells:Array Value} (hes:∀ e ∈ es,e.cells.length = s) (_hn:cells.size = (flat es).length) (h:∀ j (hj:j < (flat es).length),RelV I w [] (flat es)[j] (cells.getD j Go.undef)) :
  ∀ i (hi:i < es.length) j (hj:j < (es[i]).cells.length),RelV I w [] ((es[i]).cells[j]) (cells.getD (i * s + j) Go.undef):=by
 intro i hi j hj
 have h1:=flat_get hes i hi j hj
 have hlt:i * s + j < (flat es).length:=by
  rcases Nat.lt_or_ge (i * s + j) (flat es).length with h2 | h2
  ·exact h2
  ·rw [List.getElem?_eq_none h2] at h1; cases h1
 rw [List.getElem?_eq_getElem hlt] at h1
 rw [← Option.some.inj h1]
 exact h _ hlt
theorem zeros_rel [_KN:Know] {I:Nat → Prop} {w:World} {z:Value} {n:Nat} {m:Nat} (hz:∀ x ∈ z.cells.toList,x.oneCell' = true) (hs:0 < z.cells.size) (hm:m = n * z.cells.size) :
  ((Array.range m).map (z.cells[· % z.cells.size]!)).size = (flat (List.replicate n (constAV z))).length ∧
  ∀ j (hj:j < (flat (List.replicate n (constAV z))).length),RelV I w [] (flat (List.replicate n (constAV z)))[j] (((Array.range m).map (z.cells[· % z.cells.size]!)).getD j Go.undef):=by
 have hc:=constAV_cells z hz
 have hlen:(constAV z).cells.length = z.cells.size:=by rw [hc]; simp
 have hall:∀ e ∈ List.replicate n (constAV z),e.cells.length = z.cells.size:=fun e he=>by rw [List.eq_of_mem_replicate he]; exact hlen
 have hfl:=flat_length hall
 rw [List.length_replicate] at hfl
 refine ⟨by rw [hfl]; simp [hm],fun j hj=>?_⟩
 rw [hfl] at hj
 have hi:j / z.cells.size < n:=by rw [Nat.div_lt_iff_lt_mul hs]; exact hj
 have hr:j % z.cells.size < z.cells.size:=Nat.mod_lt _ hs
 have hg:=flat_get hall (j / z.cells.size) (by simpa using hi) (j % z.cells.size) (by simp [hlen,hr])
 have hj2:j / z.cells.size * z.cells.size + j % z.cells.size = j:=by rw [Nat.mul_comm]; exact Nat.div_add_mod j _
 rw [hj2,List.getElem?_eq_getElem (by rw [hfl]; exact hj)] at hg
 rw [Option.some.inj hg]
 rw [getD_of (by simp [hm]; exact hj)]
 simp only [List.getElem_replicate,hc,List.getElem_map,Array.getElem_toList,Array.getElem_map,Array.getElem_range]
 rw [getElem!_pos z.cells _ hr]
 exact rel_constCell _
theorem range0_map (f:Nat → Value):(Array.range 0).map f = #[]:=Array.eq_empty_of_size_eq_zero (by simp)
theorem SOp.buildSlice [KN:Know] {P:Program} {n:Nat} {o:Oper} {N:St → Prop} {st:St} {t e len:Nat} {parts:Array (Nat × Operand)} (ho:o.op = .buildSlice t len parts) (ht:P.underlying t = some (.slice e)) {i:TypeInfo} (hi:P.info? e = some i)
  {s:Nat} (his:i.size = s) (hs:0 < s) {z:Value} (hiz:i.zero = some z) (hzs:z.cells.size = s) (hz1:z.cells.toList.all Value.oneCell' = true) (hbig:len * s ≤ 16777216) {es:List AV}
  (hes:setElems s (List.replicate len (constAV z)) (parts.toList.map fun p=>(p.1,aeval st p.2)) = some es) (hq:∀ p ∈ parts.toList,cellsQ [] (aeval st p.2) = true) (hp:∀ p ∈ parts.toList,pureQ (aeval st p.2) = true)
  (hN:N (({ st with h:=st.h ++ [.arr s es] }:St).put o.dst (.ref st.h.length 0 len))):SOp P n o N st:=by
 subst his
 simp only [List.all_eq_true] at hz1
 have hc:=constAV_cells z hz1
 have hall:∀ e ∈ List.replicate len (constAV z),e.cells.length = i.size:=fun e he=>by rw [List.eq_of_mem_replicate he,hc]; simpa using hzs
 obtain ⟨k1,k2,k3⟩:=setElems_fill _ _ es hall hes
 rw [List.length_replicate] at k3
 subst k3
 refine SOp.newArr (fun I μ a w R=>?_) hN
 obtain ⟨z1,z2⟩:=zeros_rel (I:=I) (w:=w) (z:=z) (n:=es.length) (m:=es.length * i.size) hz1 (by omega) (by rw [hzs])
 obtain ⟨xs',f1,f2,f3,f4⟩:=afill_ok (relH_nil R.heap.imm R.heap.know) _ _ (parts.toList.map fun p=>(p.1,a.eval p.2)) _ _ _ k1 (by simp) (fun i h1 h2=>by
   simp only [List.getElem_map]
   exact ⟨trivial,pureQ_ok (hp _ (List.getElem_mem _)) (R.eval _) []⟩) (fun p hp=>by
   simp only [List.mem_map] at hp
   obtain ⟨q,hq1,rfl⟩:=hp
   exact hq q hq1) z1 z2
 have hfl:=flat_length k2
 refine ⟨w.alloc (.cells xs' e),e,xs',0,0,es.length,fun i' j=>xs'.getD (i' * i.size + j) Go.undef,?_,⟨rfl,rfl,rfl⟩,fun k hk=>by omega,Nat.le_refl _,by rw [f2,hfl]; exact Nat.le_refl _,fun i' hi'=>k2 _ (List.getElem_mem hi'),fun p q hp' hq'=>?_,flat_rel k2 f2 f4⟩
 ·have hmap:(parts.map fun (i,x)=>(i,a.eval x)).toList = parts.toList.map fun p=>(p.1,a.eval p.2):=by simp
  simp only [execOp,ho,Instr.buildSlice,Sem.run_bind,run_underQ ht,Result.andThen_ok,sizeOf,typeInfo,run_program,hi,Sem.run_pure,hmap]
  rw [if_neg (by omega)]
  by_cases h0:es.length * i.size = 0
  ·have f1':Instr.fill (fun i_1=>some (i_1 * i.size,i.size)) #[] (parts.toList.map fun p=>(p.1,a.eval p.2)) = some xs':=by
    rw [← f1,h0,range0_map]
   have hr0:∀ f:Nat → Value,(Array.range 0).map f = #[]:=range0_map
   simp [h0,hr0,f1',newRow]
  ·simp [h0,zeroValue,typeInfo,hi,hiz,f1,newRow]
 ·have hlt:p * i.size + q < xs'.size:=by
   rw [f2,hfl]
   have:(p + 1) * i.size ≤ es.length * i.size:=Nat.mul_le_mul_right _ hp'
   rw [Nat.add_mul,Nat.one_mul] at this; omega
  dsimp only
  rw [getD_of hlt,Array.getElem?_eq_getElem hlt]
theorem SOp.makeSlice [KN:Know] {P:Program} {n:Nat} {o:Oper} {N:St → Prop} {st:St} {t e:Nat} {x y:Operand} (ho:o.op = .makeSlice t x y) (ht:P.underlying t = some (.slice e)) {i:TypeInfo} (hi:P.info? e = some i)
  {s:Nat} (his:i.size = s) (hs:0 < s) {z:Value} (hiz:i.zero = some z) (hzs:z.cells.size = s) (hz1:z.cells.toList.all Value.oneCell' = true) {k k':IntKind} {l c:Int} (hx:aeval st x = .lit (.int k l)) (hy:aeval st y = .lit (.int k' c))
  (h0:0 ≤ l) (h1:l ≤ c) (h2:c ≤ 9223372036854775807) (h3:i.bytes * c ≤ 140737488355328)
  (hN:N (({ st with h:=st.h ++ [.arr s (List.replicate l.toNat (constAV z))] }:St).put o.dst (.ref st.h.length 0 l.toNat))):SOp P n o N st:=by
 subst his
 simp only [List.all_eq_true] at hz1
 have hc:=constAV_cells z hz1
 have hall:∀ m,∀ e ∈ List.replicate m (constAV z),e.cells.length = i.size:=fun m e he=>by rw [List.eq_of_mem_replicate he,hc]; simpa using hzs
 have hlen:(List.replicate l.toNat (constAV z)).length = l.toNat:=by simp
 rw [← hlen] at hN
 simp only [hlen] at hN
 refine SOp.newArr (es:=List.replicate l.toNat (constAV z)) (fun I μ a w R=>?_) (by rw [hlen]; exact hN)
 have e1:=R.eval x; rw [hx] at e1
 have e2:=R.eval y; rw [hy] at e2
 obtain ⟨z1,z2⟩:=zeros_rel (I:=I) (w:=w) (z:=z) (n:=c.toNat) (m:=c.toNat * i.size) hz1 (by omega) (by rw [hzs])
 have hfl:=flat_length (hall c.toNat)
 rw [List.length_replicate] at hfl
 have hrel:=flat_rel (hall c.toNat) z1 z2
 let cells:=(Array.range (c.toNat * i.size)).map (z.cells[· % z.cells.size]!)
 refine ⟨w.alloc (.cells cells e),e,cells,0,0,c.toNat,fun i' j=>cells.getD (i' * i.size + j) Go.undef,?_,⟨rfl,rfl,rfl⟩,fun k hk=>by omega,by rw [hlen]; omega,by rw [z1,hfl]; exact Nat.le_refl _,fun i' hi'=>hall _ _ (List.getElem_mem hi'),fun p q hp' hq'=>?_,fun p hp' q hq'=>?_⟩
 ·have w1:IntKind.i64.wrap l = l:=by
   simp only [IntKind.wrap,IntKind.bits,IntKind.signed]; simp; omega
  have w2:IntKind.i64.wrap c = c:=by
   simp only [IntKind.wrap,IntKind.bits,IntKind.signed]; simp; omega
  have hneg:¬ (c < 0 ∨ (i.bytes:Int) * c > 281474976710656):=by omega
  have hb:((decide (c < 0) || decide ((i.bytes:Int) * c > 2 ^ 48)) || decide (l < 0) || decide (l > c)) = false:=by
   simp only [Bool.or_eq_false_iff,decide_eq_false_iff_not]
   refine ⟨⟨⟨by omega,by omega⟩,by omega⟩,by omega⟩
  simp only [execOp,ho,Instr.makeSlice,e1.lit_eq,e2.lit_eq,Sem.run_bind,run_underQ ht,Result.andThen_ok,asInt,asIntOf,Sem.run_pure,typeInfo,run_program,hi,w1,w2,hb,Bool.false_eq_true,if_false,run_askRoom,sizeOf]
  by_cases h0:c.toNat * i.size = 0
  ·have:cells = #[]:=by simp only [cells,h0]; exact range0_map _
   have hr0:∀ f:Nat → Value,(Array.range 0).map f = #[]:=range0_map
   simp [h0,newRow,this,hlen,hr0]
  ·simp [h0,zeroValue,typeInfo,hi,hiz,newRow,cells,hlen]
 ·have hlt:p * i.size + q < cells.size:=by
   simp only [hlen] at hp'
   rw [z1,hfl]
   have:(p + 1) * i.size ≤ c.toNat * i.size:=Nat.mul_le_mul_right _ (by omega)
   rw [Nat.add_mul,Nat.one_mul] at this; omega
  dsimp only
  rw [getD_of hlt,Array.getElem?_eq_getElem hlt]
 ·simp only [hlen] at hp'
  have:=hrel p (by simp; omega) q (by simpa using hq')
  simp only [List.getElem_replicate] at this ⊢
  exact this
theorem SOp.convToBytes [KN:Know] {P:Program} {n:Nat} {o:Oper} {N:St → Prop} {st:St} {s t e:TypeId} {x:Operand} (ho:o.op = .convert s t x) (hs:P.underlying s = some .string) (ht:P.underlying t = some (.slice e)) (he:P.underlying e = some (.int .u8))
  {b:ByteArray} (hx:aeval st x = .lit (.string b)) (hN:N (({ st with h:=st.h ++ [.arr 1 (b.data.toList.map fun c=>.lit (.int .u8 c.toNat))] }:St).put o.dst (.ref st.h.length 0 b.size))):SOp P n o N st:=by
 have hlen:(b.data.toList.map fun c=>AV.lit (.int .u8 c.toNat)).length = b.size:=by
  rw [List.length_map,Array.length_toList]; rfl
 refine SOp.newArr (es:=b.data.toList.map fun c=>.lit (.int .u8 c.toNat)) (fun I μ a w R=>?_) (by rw [hlen]; exact hN)
 have e1:=R.eval x; rw [hx] at e1
 obtain ⟨cap,hcap⟩:∃ cap,cap = (Question.appendCap b.size 0 e).cut (w.tape w.drawn (.appendCap b.size 0 e)):=⟨_,rfl⟩
 have hle:b.size ≤ cap:=by rw [hcap]; simp only [Question.cut]; omega
 let elems:Array Value:=b.data.map fun c=>.int .u8 c.toNat
 have hel:elems.size = b.size:=by simp only [elems,Array.size_map]; rfl
 let cells:=elems ++ Array.replicate (cap - b.size) (.int .u8 0)
 have hcs:cells.size = cap:=by simp only [cells,Array.size_append,Array.size_replicate,hel]; omega
 refine ⟨(w.drew.alloc (.cells cells e)).freeze { block:=w.heap.size,off:=cells.size } 1,e,cells,cells.size,cells.size + 1,cap,fun i _=>.int .u8 (b.data.toList.getD i 0).toNat,?_,?_,fun k hk=>by omega,by rw [hlen]; exact hle,by rw [hcs]; omega,fun i hi=>?_,fun i j hi hj=>?_,fun i hi j hj=>?_⟩
 ·have hg:(w.drew.heap.push (Obj.cells cells e))[w.heap.size]? = some (.cells cells e):=Array.getElem?_push_size (xs:=w.drew.heap)
  have hsh:(w.drew.alloc (.cells cells e)).shape? w.heap.size = some (e,cells.size):=by simp only [World.shape?,alloc_heap,hg]
  have hn:Question.forced (.appendCap b.size 0 e) = false:=rfl
  simp only [execOp,ho,e1.lit_eq,convert,Sem.run_bind,run_underQ hs,run_underQ ht,run_underQ he,Result.andThen_ok,Conv.stringToBytes,run_choose,hn,Bool.false_eq_true,if_false,← hcap,newRow,run_newObj,Sem.run_pure,markStringish,run_shape]
  have:({ heap:={ heap:=w.heap,tape:=w.tape,drawn:=w.drawn + 1,os:=w.os,output:=w.output:World }.heap.push (.cells (Array.map (fun b=>Value.int IntKind.u8 ↑b.toNat) b.data ++ Array.replicate (cap - b.size) (Value.int IntKind.u8 0)) e),tape:=w.tape,drawn:=w.drawn + 1,os:=w.os,output:=w.output }:World) = w.drew.alloc (.cells cells e):=rfl
  rw [this,hsh]
  simp only [run_freeze,Result.andThen_ok,hlen]
 ·simp only [World.freeze,if_neg (show (1:Nat) ≠ 0 by decide)]
  refine ⟨?_,rfl,rfl⟩
  apply Array.ext
  ·simp [alloc_heap]
  ·intro k h1 h2
   rw [Array.getElem_modify]
   simp only [alloc_heap]
   by_cases hk:w.heap.size = k
   ·subst hk
    have hg:(w.drew.heap.push (Obj.cells cells e))[w.heap.size]'(by simp) = .cells cells e:=by
     have:=Array.getElem?_push_size (xs:=w.drew.heap) (x:=Obj.cells cells e)
     rw [Array.getElem?_eq_getElem (by simp)] at this
     exact Option.some.inj this
    rw [if_pos rfl,hg]
    simp
   ·rw [if_neg hk]
    simp only [Array.size_push] at h2
    have hk2:k < w.heap.size:=by omega
    rw [Array.getElem_push_lt (show k < w.drew.heap.size from hk2),Array.getElem_push_lt hk2]
    rfl
 ·simp only [List.getElem_map,AV.cells,List.length_cons,List.length_nil]
 ·have:j = 0:=by omega
  subst this
  simp only [hlen] at hi
  have hi':i < b.data.size:=by exact hi
  simp only [cells,elems,Nat.mul_one,Nat.add_zero]
  rw [Array.getElem?_append_left (by simpa using hi')]
  simp [Array.getElem?_eq_getElem hi',List.getD]
 ·simp only [hlen] at hi
  have:j = 0:=by simp [AV.cells] at hj; exact hj
  subst this
  have hi':i < b.data.toList.length:=by rw [Array.length_toList]; exact hi
  simp only [List.getElem_map,AV.cells,List.getElem_cons_zero]
  rw [show b.data.toList.getD i 0 = b.data.toList[i] by simp only [List.getD,List.getElem?_eq_getElem hi',Option.getD_some]]
  exact .lit _ _
end Go.Q
namespace Go.Q
open Go
def CallsF (P:Program) (g:FuncId) (vals:Array Value) (w:World) (R:Ending → World → Prop):Prop :=
 ((callFunc g vals).run P w = .ok (.enter g vals) w ∧ Calls P g vals w R) ∨ ∃ v w',(callFunc g vals).run P w = .ok (.value v) w' ∧ R (.returned v) w'
theorem CallsF.mono {P:Program} {g:FuncId} {vals:Array Value} {w:World} {R R':Ending → World → Prop} (h:CallsF P g vals w R) (hr:∀ e w',R e w' → R' e w'):CallsF P g vals w R':=by
 rcases h with ⟨h1,h2⟩ | ⟨v,w',h1,h2⟩
 ·exact .inl ⟨h1,h2.mono hr⟩
 ·exact .inr ⟨v,w',h1,hr _ _ h2⟩
def ArgsRel (I:Nat → Prop) (w:World) (μ:MM) (args:List AV) (vals:Array Value):Prop :=
 vals.size = args.length ∧ ∀ i (hi:i < args.length),RelV I w μ args[i] (vals.getD i Go.undef)
def ACalls [KN:Know] (P:Program) (g:FuncId) (args:List AV) (hs:List AObj) (R:AV → List AObj → Prop):Prop :=
 ∀ I μ w (vals:Array Value),RelH I μ hs w → ArgsRel I w μ args vals →
  CallsF P g vals w fun e w'=>∃ v r h' I' μ',e = .returned v ∧ R r h' ∧ RelH I' μ' h' w' ∧ RelV I' w' μ' r v ∧ Step I μ w I' μ' w' ∧ Pre hs.length μ μ'
def CallOK [KN:Know] (P:Program) (n:Nat) (g:FuncId) (args:List AV) (st:St) (K:St → AV → Prop):Prop :=
 ∀ I μ a w (vals:Array Value),Rel I μ st a w → n ≤ μ.length → ArgsRel I w μ args vals →
  CallsF P g vals w fun e w'=>∃ v r I' μ' st',e = .returned v ∧ K st' r ∧ Rel I' μ' st' a w' ∧ RelV I' w' μ' r v ∧ Step I μ w I' μ' w' ∧ Pre n μ μ'
def sh0 (k:Nat):AV → AV
 | .ref o off len=>.ref (o + k) off len
 | .ptr o j=>.ptr (o + k) j
 | .eptr o i j=>.eptr (o + k) i j
 | .fn f a b=>if a.isEmpty && b.all pureQ.pureQ0 then .fn f a b else .undef
 | .agg _=>.undef
 | .tup _=>.undef
 | v=>v
def sh1 (k:Nat):AV → AV
 | .agg cs=>.agg (cs.map (sh0 k))
 | v=>sh0 k v
def sh2 (k:Nat):AV → AV
 | .tup vs=>.tup (vs.map (sh1 k))
 | v=>sh1 k v
def shO (k:Nat):AObj → AObj
 | .box cs=>.box (cs.map (sh0 k))
 | ob=>ob
theorem append_get {μ ν:MM} {o:Nat}:(μ ++ ν)[o + μ.length]? = ν[o]?:=by
 rw [List.getElem?_append_right (by omega)]; congr 1; omega
theorem append_loc [_KN:Know] {μ ν:MM} {o:Nat} {l:Loc} (h:ν.loc o = some l):MM.loc (μ ++ ν) (o + μ.length) = some l:=by
 rw [MM.loc_some] at h ⊢
 rw [append_get]; exact h
theorem RelV.sh0 [KN:Know] {I:Nat → Prop} {w:World} {μ ν:MM} {c:AV} {v:Value} (h:RelV I w ν c v):RelV I w (μ ++ ν) (sh0 μ.length c) v:=by
 cases h with
 | undef=>exact .undef _ _
 | lit=>exact .lit _ _
 | nils=>exact .nils _
 | agg=>exact .undef _ _
 | tup=>exact .undef _ _
 | vs _ s es a cap val hcap ha hn hv=>exact .vs _ s es a cap val hcap ha hn hv
 | ref _ o off len cap l hl hlen hcap=>exact .ref _ _ off len cap l (append_loc hl) hlen hcap
 | ref0 _ o hl=>exact .ref0 _ _ (by rw [append_get]; exact hl)
 | refE _ o off l a hl=>exact .refE _ _ off l a (append_loc hl)
 | refX _ o off len v hl=>exact .refX _ _ off len v (by rw [append_get]; exact hl)
 | ptrX _ o j v hl=>exact .ptrX _ _ j v (by rw [append_get]; exact hl)
 | eptrX _ o i j v hl=>exact .eptrX _ _ i j v (by rw [append_get]; exact hl)
 | ptr _ o j l hl=>exact .ptr _ _ j l (append_loc hl)
 | eptr _ o i j l hl=>exact .eptr _ _ i j l (append_loc hl)
 | iptr _ c b off val hI hc hv=>exact .iptr _ c b off val hI hc hv
 | fn _ f first captured fs cs hf hc h1 h2 =>
  simp only [Q.sh0]
  split
  ·rename_i he
   simp only [Bool.and_eq_true,List.isEmpty_iff,List.all_eq_true] at he
   obtain ⟨rfl,he⟩:=he
   exact .fn _ f _ _ fs cs hf hc (fun i hi=>by simp at hi) (fun i hi=>pureQ0_ok (he _ (List.getElem_mem hi)) (h2 i hi) _)
  ·exact .undef _ _
theorem RelV.sh1 [KN:Know] {I:Nat → Prop} {w:World} {μ ν:MM} {c:AV} {v:Value} (h:RelV I w ν c v):RelV I w (μ ++ ν) (sh1 μ.length c) v:=by
 cases c with
 | agg cs =>
  obtain ⟨xs,rfl,hn,hx⟩:=h.agg_inv
  exact .agg _ _ xs (by simpa using hn) (fun i hi=>by
   simp only [List.length_map] at hi
   simp only [List.getElem_map]
   exact (hx i hi).sh0)
 | _=>exact h.sh0
theorem RelV.sh2 [KN:Know] {I:Nat → Prop} {w:World} {μ ν:MM} {c:AV} {v:Value} (h:RelV I w ν c v):RelV I w (μ ++ ν) (sh2 μ.length c) v:=by
 cases c with
 | tup cs =>
  obtain ⟨xs,rfl,hn,hx⟩:=h.tup_inv
  exact .tup _ _ xs (by simpa using hn) (fun i hi=>by
   simp only [List.length_map] at hi
   simp only [List.getElem_map]
   exact (hx i hi).sh1)
 | _=>exact h.sh1
theorem RelO.shO [KN:Know] {I:Nat → Prop} {w:World} {μ ν:MM} {ob:AObj} {x:Slot} (h:RelO I w ν ob x):RelO I w (μ ++ ν) (shO μ.length ob) x:=by
 cases h with
 | dead=>exact .dead
 | arr0 s=>exact .arr0 s
 | arr s es l val hs hb hsz hn hc hv=>exact .arr s es l val hs hb hsz hn hc hv
 | box cs l val hb hsz hc hv =>
  exact .box _ l val hb (by simpa using hsz) (fun j hj=>hc j (by simpa using hj)) (fun j hj=>by
   simp only [List.length_map] at hj
   simp only [List.getElem_map]
   exact (hv j hj).sh0)
theorem RelH.join [KN:Know] {I I':Nat → Prop} {μ ν:MM} {h h':List AObj} {w w':World} (H:RelH I μ h w) (H':RelH I' ν h' w') (hI:∀ b,I b → I' b) (hsame:∀ b,b < w.heap.size → w'.heap[b]? = w.heap[b]?)
  (hown:∀ b,ν.owns b → w.heap.size ≤ b) (himm:∀ b,I' b → I b ∨ w.heap.size ≤ b):RelH I' (μ ++ ν) (h ++ h'.map (shO h.length)) w':=by
 have hl:μ.length = h.length:=H.len
 have hloc:∀ k l,MM.loc (μ ++ ν) k = some l → (MM.loc μ k = some l) ∨ (μ.length ≤ k ∧ MM.loc ν (k - μ.length) = some l):=by
  intro k l e
  rw [MM.loc_some] at e
  rcases Nat.lt_or_ge k μ.length with h1 | h1
  ·rw [List.getElem?_append_left h1] at e; exact .inl (MM.loc_some.2 e)
  ·rw [List.getElem?_append_right h1] at e; exact .inr ⟨h1,MM.loc_some.2 e⟩
 refine ⟨by simp [H.len,H'.len],fun k ob x hk hx=>?_,fun b hb=>?_,fun k k' l1 l2 e1 e2 e=>?_,H'.imm,H'.know⟩
 ·rcases Nat.lt_or_ge k h.length with h1 | h1
  ·rw [List.getElem?_append_left h1] at hk
   rw [List.getElem?_append_left (by omega)] at hx
   refine (H.objs k ob x hk hx).mono hI (fun b hb=>hsame b (H.imm b hb)) (fun _ _ r=>r.sub (MM.sub_append _ _)) (fun l e=>hsame _ ?_)
   subst e
   exact H.size_owned ⟨k,l,MM.loc_some.2 hx,rfl⟩
  ·rw [List.getElem?_append_right h1,List.getElem?_map] at hk
   rw [List.getElem?_append_right (by omega),hl] at hx
   cases ho:h'[k - h.length]? with
   | none=>rw [ho] at hk; cases hk
   | some ob' =>
    rw [ho] at hk
    cases hk
    rw [← hl]
    rw [← hl] at ho hx
    exact (H'.objs _ ob' x ho hx).shO
 ·obtain ⟨k,l,e,rfl⟩:=hb
  rcases hloc k l e with h1 | ⟨_,h1⟩
  ·intro hI'
   have hlt:=H.size_owned ⟨k,l,h1,rfl⟩
   rcases himm _ hI' with h2 | h2
   ·exact H.notI _ ⟨k,l,h1,rfl⟩ h2
   ·omega
  ·exact H'.notI _ ⟨_,l,h1,rfl⟩
 ·rcases hloc k l1 e1 with h1 | ⟨h0,h1⟩ <;> rcases hloc k' l2 e2 with h2 | ⟨h0',h2⟩
  ·exact H.apart _ _ _ _ h1 h2 e
  ·have a1:=H.size_owned ⟨k,l1,h1,rfl⟩
   have a2:=hown _ ⟨_,l2,h2,rfl⟩
   omega
  ·have a1:=H.size_owned ⟨k',l2,h2,rfl⟩
   have a2:=hown _ ⟨_,l1,h1,rfl⟩
   omega
  ·have:=H'.apart _ _ _ _ h1 h2 e
   omega
theorem owns_nil (b:Nat):¬ MM.owns [] b:=by rintro ⟨o,l,h,_⟩; simp [MM.loc] at h
theorem CallOK.pure [KN:Know] {P:Program} {n:Nat} {g:FuncId} {args:List AV} {st:St} {K:St → AV → Prop} {R:AV → List AObj → Prop} (h:ACalls P g args [] R) (hp:args.all pureQ = true)
  (hK:∀ r h',R r h' → K { st with h:=st.h ++ h'.map (shO st.h.length) } (sh2 st.h.length r)):CallOK P n g args st K:=by
 intro I μ a w vals Rl hn hv
 simp only [List.all_eq_true] at hp
 refine (h I [] w vals (relH_nil Rl.heap.imm Rl.heap.know) ⟨hv.1,fun i hi=>pureQ_ok (hp _ (List.getElem_mem hi)) (hv.2 i hi) []⟩).mono ?_
 rintro e w' ⟨v,r,h',I',ν,rfl,hR,hH,hr,S,_⟩
 have hsame:∀ b,b < w.heap.size → w'.heap[b]? = w.heap[b]?:=fun b hb=>S.same b hb (owns_nil b)
 have hown:∀ b,ν.owns b → w.heap.size ≤ b:=fun b hb=>(S.own b hb).resolve_left (owns_nil b)
 have himm:∀ b,I' b → I b ∨ w.heap.size ≤ b:=fun b hb=>by
  rcases S.imm b hb with h1 | h1 | h1
  ·exact .inl h1
  ·exact absurd h1 (owns_nil b)
  ·exact .inr h1
 have hj:=Rl.heap.join hH S.mono hsame hown himm
 refine ⟨v,_,I',μ ++ ν,_,rfl,hK r h' hR,⟨fun d=>((Rl.tmps d).sub (MM.sub_append _ _)).mono S.mono (fun b hb=>hsame b (Rl.heap.imm b hb)),Rl.size,Rl.defers,hj⟩,?_,⟨S.mono,S.grow,fun b hb _=>hsame b hb,fun b hb=>?_,fun b hb=>?_,S.ext⟩,Pre.append _ hn⟩
 ·rw [← Rl.heap.len]; exact hr.sh2
 ·obtain ⟨k,l,e,rfl⟩:=hb
  rw [MM.loc_some] at e
  rcases Nat.lt_or_ge k μ.length with h1 | h1
  ·rw [List.getElem?_append_left h1] at e; exact .inl ⟨k,l,MM.loc_some.2 e,rfl⟩
  ·rw [List.getElem?_append_right h1] at e; exact .inr (hown _ ⟨_,l,MM.loc_some.2 e,rfl⟩)
 ·rcases himm b hb with h1 | h1
  ·exact .inl h1
  ·exact .inr (.inr h1)
def lend (h:List AObj):AV → AV → Prop
 | .ref k off len,b=>∃ s es,h[k]? = some (.arr s es) ∧ off + len ≤ es.length ∧ b = .vs s ((es.drop off).take len)
 | a,b=>pureQ a = true ∧ b = a
def flat0:AV → Bool
 | .lit _=>true
 | _=>false
def flat1:AV → Bool
 | .agg cs=>cs.all flat0
 | v=>flat0 v
def flatLit:AV → Bool
 | .tup vs=>vs.all flat1
 | v=>flat1 v
theorem flat0_ok {I I':Nat → Prop} {w w':World} {μ ν:MM} {r:AV} {v:Value} (h:flat0 r = true) (hr:RelV I w ν r v):RelV I' w' μ r v:=by
 cases hr with
 | lit=>exact .lit _ _
 | _=>cases h
theorem flat1_ok [_KN:Know] {I I':Nat → Prop} {w w':World} {μ ν:MM} {r:AV} {v:Value} (h:flat1 r = true) (hr:RelV I w ν r v):RelV I' w' μ r v:=by
 cases r with
 | agg cs =>
  obtain ⟨xs,rfl,hn,hx⟩:=hr.agg_inv
  simp only [flat1,List.all_eq_true] at h
  exact .agg _ _ xs hn (fun i hi=>flat0_ok (h _ (List.getElem_mem hi)) (hx i hi))
 | _=>exact flat0_ok (by simpa only [flat1] using h) hr
theorem flatLit_ok [KN:Know] {I I':Nat → Prop} {w w':World} {μ ν:MM} {r:AV} {v:Value} (h:flatLit r = true) (hr:RelV I w ν r v):RelV I' w' μ r v:=by
 cases r with
 | tup cs =>
  obtain ⟨xs,rfl,hn,hx⟩:=hr.tup_inv
  simp only [flatLit,List.all_eq_true] at h
  exact .tup _ _ xs hn (fun i hi=>flat1_ok (h _ (List.getElem_mem hi)) (hx i hi))
 | _=>exact flat1_ok (by simpa only [flatLit] using h) hr
theorem CallOK.lend [KN:Know] {P:Program} {n:Nat} {g:FuncId} {args bs:List AV} {st:St} {K:St → AV → Prop} {R:AV → List AObj → Prop} (h:ACalls P g bs [] R) (hlen:args.length = bs.length)
  (hb:∀ i (h1:i < args.length) (h2:i < bs.length),lend st.h args[i] bs[i]) (hK:∀ r h',R r h' → flatLit r = true ∧ K st r):CallOK P n g args st K:=by
 intro I μ a w vals Rl hn hv
 let J:Nat → Prop:=fun b=>I b ∨ μ.owns b
 have hJ:∀ b,J b → b < w.heap.size:=fun b hb=>hb.elim (Rl.heap.imm b) Rl.heap.size_owned
 refine (h J [] w vals (relH_nil hJ (Rl.heap.know.step (fun _ h=>.inl h) (fun _ _=>rfl))) ⟨by rw [hv.1,hlen],fun i hi=>?_⟩).mono ?_
 ·have h1:=hb i (by omega) hi
  have h2:=hv.2 i (by omega)
  generalize args[i] = x at h1 h2
  generalize bs[i] = b at h1
  have pure:∀ x,pureQ x = true → RelV I w μ x (vals.getD i Go.undef) → RelV J w [] x (vals.getD i Go.undef):=fun x hx hr=>(pureQ_ok hx hr []).mono (fun _ h=>.inl h) (fun _ _=>rfl)
  cases x with
  | ref k off len =>
   obtain ⟨s,es,hk,hle,rfl⟩:=h1
   have hl2:((es.drop off).take len).length = len:=by simp; omega
   rcases Rel.ref Rl.heap hk h2 with ⟨e,rfl,rfl,rfl,_⟩ | ⟨ad,l,e,rfl,_⟩ | ⟨l,cap,val,hl,e,hcap,hsz,hes,hbk,hsz',hnn,hc,hr⟩
   ·rw [e]
    simpa using RelV.vs (I:=J) (w:=w) [] s [] none 0 (fun _ _=>Go.undef) (by simp) (fun h=>by simp at h) (fun i hi=>by simp at hi) (fun i hi=>by simp at hi)
   ·rw [e]
    simpa using RelV.vs (I:=J) (w:=w) [] s [] ad 0 (fun _ _=>Go.undef) (by simp) (fun h=>by simp at h) (fun i hi=>by simp at hi) (fun i hi=>by simp at hi)
   ·rw [e]
    have:=RelV.vs (I:=J) (w:=w) [] s ((es.drop off).take len) (some ⟨l.block,l.base + off * s,none⟩) cap (fun i j=>val (off + i) j) (by rw [hl2]; exact hcap)
     (fun _=>⟨l.block,l.base + off * s,rfl,.inr ⟨k,l,hl,rfl⟩,fun p q hp hq=>by
      rw [hl2] at hp
      rw [← hc (off + p) q (by omega) hq,Nat.add_mul,← Nat.add_assoc]⟩)
     (fun p hp=>by rw [hl2] at hp; simpa using hnn (off + p) (by omega))
     (fun p hp q hq=>by
      rw [hl2] at hp
      have e1:((es.drop off).take len)[p]'(by rw [hl2]; exact hp) = es[off + p]:=by simp
      have hq':q < (es[off + p]).cells.length:=by rw [← e1]; exact hq
      have:=(hr (off + p) (by omega) q hq').mono (I':=J) (w':=w) (fun _ h=>.inl h) (fun _ _=>rfl)
      simpa [e1] using this)
    rwa [hl2] at this
  | _=>obtain ⟨h3,rfl⟩:=h1; exact pure _ h3 h2
 ·rintro e w' ⟨v,r,h',I',ν,rfl,hR,hH,hr,S,_⟩
  obtain ⟨hf,hK'⟩:=hK r h' hR
  have hsame:∀ b,b < w.heap.size → w'.heap[b]? = w.heap[b]?:=fun b hb=>S.same b hb (owns_nil b)
  refine ⟨v,r,I,μ,st,rfl,hK',?_,flatLit_ok hf hr,⟨fun _ h=>h,S.grow,fun b hb _=>hsame b hb,fun _ h=>.inl h,fun _ h=>.inl h,S.ext⟩,Pre.refl _ _ hn⟩
  refine ⟨fun d=>(Rl.tmps d).mono (fun _ h=>h) (fun b hb=>hsame b (Rl.heap.imm b hb)),Rl.size,Rl.defers,⟨Rl.heap.len,fun k ob x h1 h2=>?_,Rl.heap.notI,Rl.heap.apart,fun b hb=>Nat.lt_of_lt_of_le (Rl.heap.imm b hb) S.grow,Rl.heap.know.step (fun _ h=>h) (fun b hb=>hsame b (Rl.heap.imm b hb))⟩⟩
  refine (Rl.heap.objs k ob x h1 h2).mono (fun _ h=>h) (fun b hb=>hsame b (Rl.heap.imm b hb)) (fun _ _ h=>h) (fun l e=>hsame _ ?_)
  subst e
  exact Rl.heap.size_owned ⟨k,l,MM.loc_some.2 h2,rfl⟩
theorem SOp.call [KN:Know] {P:Program} {n:Nat} {o:Oper} {N:St → Prop} {st:St} {f:Operand} {args:Array Operand} {ts:Array TypeId} (ho:o.op = .call { callee:=.value f,args:=args,argTypes:=ts }) {g:FuncId} {first captured:List AV}
  (hf:aeval st f = .fn (.func g) first captured) (h:CallOK P n g (first ++ args.toList.map (aeval st) ++ captured) st (fun st' r=>N (st'.put o.dst r))):SOp P n o N st:=by
 intro I μ a w R hn next Q hk
 have e1:=R.eval f
 rw [hf] at e1
 generalize hfv:a.eval f = fv at e1
 cases e1 with
 | fn _ _ _ _ fs cs hfs hcs h1 h2 =>
  have hargs:ArgsRel I w μ (first ++ args.toList.map (aeval st) ++ captured) (fs ++ args.map a.eval ++ cs):=by
   refine ⟨by simp [hfs,hcs],fun i hi=>?_⟩
   simp only [List.length_append,List.length_map,Array.length_toList] at hi
   rcases Nat.lt_or_ge i first.length with h3 | h3
   ·rw [List.getElem_append_left (by simp; omega),List.getElem_append_left h3]
    rw [getD_of (by simp; omega)]
    rw [Array.getElem_append_left (by simp; omega),Array.getElem_append_left (by omega)]
    have:=h1 i h3
    rwa [getD_of (by omega)] at this
   ·rcases Nat.lt_or_ge i (first.length + args.size) with h4 | h4
    ·rw [List.getElem_append_left (by simp; omega),List.getElem_append_right h3]
     rw [getD_of (by simp; omega)]
     rw [Array.getElem_append_left (by simp; omega),Array.getElem_append_right (by omega)]
     simp only [List.getElem_map,Array.getElem_map,Array.getElem_toList,hfs]
     exact R.eval _
    ·rw [List.getElem_append_right (by simp; omega)]
     rw [getD_of (by simp; omega)]
     rw [Array.getElem_append_right (by simp; omega)]
     have:=h2 (i - (first ++ args.toList.map (aeval st)).length) (by simp; omega)
     rw [getD_of (by rw [hcs]; simp; omega)] at this
     simpa [hfs] using this
  have hexec:(execOp a.eval o).run P w = (callFunc g (fs ++ args.map a.eval ++ cs)).run P w:=by
   simp only [execOp,ho,resolve,hfv,Deferred.ofValue,pure_bind,invoke]
  have hc:=h I μ a w _ R hn hargs
  unfold Oper.wp
  rw [hexec]
  rcases hc with ⟨he,hcl⟩ | ⟨v,w',he,hR⟩
  ·rw [he]
   refine hcl.mono ?_
   rintro e w' ⟨v,r,I',μ',st',rfl,hN,R',hr,S,hp⟩
   exact hk _ _ _ _ _ hN (R'.put hr o.dst) S hp
  ·rw [he]
   obtain ⟨v',r,I',μ',st',e,hN,R',hr,S,hp⟩:=hR
   cases e
   exact hk _ _ _ _ _ hN (R'.put hr o.dst) S hp
end Go.Q
namespace Go.Q
open Go
inductive EK | i | s | b
def leafQ (P:Program) (t:TypeId):Option EK :=
 match P.underlying t with
 | some (.int _)=>some .i
 | some .string=>some .s
 | some .bool=>some .b
 | _=>none
def flatFields (P:Program):List Field → Nat → Option (List EK)
 | [],_=>some []
 | f :: fs,n =>
  if (f.name == "_" || f.offset != n) = true then none else
   match leafQ P f.type with
   | some k=>(flatFields P fs (n + 1)).map (k :: ·)
   | none=>none
def flatQ (P:Program) (t:TypeId):Option (List EK) :=
 if (P.stoodInHeld t || P.eqGuardType P.depth t) = true then none else
  match P.underlying t with
  | some (.struct fs)=>flatFields P fs.toList 0
  | _=>none
def eqKs:List EK → List AV → List AV → (Bool → Prop) → Prop
 | [],_,_,K=>K true
 | .s :: ks,.lit (.string a) :: cs,.lit (.string b) :: ds,K=>eqKs ks cs ds (fun r=>K ((a.toList == b.toList) && r))
 | .i :: ks,.lit (.int k a) :: cs,.lit (.int k' b) :: ds,K=>ifK (k = k') (eqKs ks cs ds (fun r=>K ((a == b) && r)))
 | .b :: ks,.lit (.bool a) :: cs,.lit (.bool b) :: ds,K=>eqKs ks cs ds (fun r=>K ((a == b) && r))
 | _,_,_,_=>False
theorem run_part_leaf [_KN:Know] {P:Program} {w:World} {t:TypeId} {xs:Array Value} {n:Nat} {k:EK} (hk:leafQ P t = some k) (hn:n < xs.size) :
  (part t xs n).run P w = .ok (xs.getD n Go.undef) w:=by
 have ha:aggQ P t = some false:=by
  unfold leafQ at hk
  unfold aggQ
  split at hk <;> simp_all
 simp only [part,Sem.run_bind,run_isAggQ ha,Result.andThen_ok,Bool.false_eq_true,if_false]
 rw [Array.getElem?_eq_getElem hn,getD_of hn]
 rfl
theorem leaf_u {P:Program} {t:TypeId}:(leafQ P t = some .s → P.underlying t = some .string) ∧ (leafQ P t = some .b → P.underlying t = some .bool) ∧ (leafQ P t = some .i → ∃ k,P.underlying t = some (.int k)):=by
 unfold leafQ
 split <;> simp_all
theorem eqKs_ok [KN:Know] {P:Program}:∀ {ks:List EK} {cs ds:List AV} {K:Bool → Prop},eqKs ks cs ds K → ∃ r,K r ∧
  ∀ (I:Nat → Prop) (w:World) (μ:MM) (xs ys:Array Value) (n d:Nat) (fs:List Field),flatFields P fs n = some ks → xs.size = n + cs.length → ys.size = n + ds.length →
   (∀ i (hi:i < cs.length),RelV I w μ cs[i] (xs.getD (n + i) Go.undef)) → (∀ i (hi:i < ds.length),RelV I w μ ds[i] (ys.getD (n + i) Go.undef)) →
   (Op.eqFields (d + 1) xs ys fs).run P w = .ok r w
 | [],cs,ds,K,h=>by
  refine ⟨true,h,fun I w μ xs ys n d fs hf _ _ _ _=>?_⟩
  cases fs with
  | nil=>simp [Op.eqFields]
  | cons f fs =>
   simp only [flatFields] at hf
   split at hf
   ·cases hf
   ·split at hf
    ·cases hg:flatFields P fs (n + 1) with
     | none=>rw [hg] at hf; cases hf
     | some l=>rw [hg] at hf; cases hf
    ·cases hf
 | k :: ks,cs,ds,K,h=>by
  have step:∀ (c e:AV) (cs' ds':List AV) (b:Bool),cs = c :: cs' → ds = e :: ds' → eqKs ks cs' ds' (fun r=>K (b && r)) →
    (∀ (I:Nat → Prop) (w:World) (μ:MM) (u v:Value) (d:Nat) (t:TypeId),RelV I w μ c u → RelV I w μ e v → leafQ P t = some k → (Op.equalIn (d + 1) t u v).run P w = .ok b w) →
    ∃ r,K r ∧ ∀ (I:Nat → Prop) (w:World) (μ:MM) (xs ys:Array Value) (n d:Nat) (fs:List Field),flatFields P fs n = some (k :: ks) → xs.size = n + cs.length → ys.size = n + ds.length →
     (∀ i (hi:i < cs.length),RelV I w μ cs[i] (xs.getD (n + i) Go.undef)) → (∀ i (hi:i < ds.length),RelV I w μ ds[i] (ys.getD (n + i) Go.undef)) →
     (Op.eqFields (d + 1) xs ys fs).run P w = .ok r w:=by
   intro c e cs' ds' b hc hd hr hb
   subst hc hd
   obtain ⟨r,hK,hall⟩:=eqKs_ok (P:=P) hr
   refine ⟨_,hK,fun I w μ xs ys n d fs hf hx hy hxc hyc=>?_⟩
   cases fs with
   | nil=>cases hf
   | cons f fs =>
    simp only [flatFields] at hf
    split at hf
    ·cases hf
    ·rename_i hcond
     split at hf
     ·rename_i k' hk'
      cases hg:flatFields P fs (n + 1) with
      | none=>rw [hg] at hf; cases hf
      | some l =>
       rw [hg] at hf
       simp only [Option.map_some,Option.some.injEq,List.cons.injEq] at hf
       obtain ⟨rfl,rfl⟩:=hf
       simp only [Bool.or_eq_true,beq_iff_eq,bne_iff_ne,ne_eq,not_or,Decidable.not_not] at hcond
       obtain ⟨hname,hoff⟩:=hcond
       simp only [List.length_cons] at hx hy
       have h0:=hxc 0 (by simp)
       have h0':=hyc 0 (by simp)
       simp only [List.getElem_cons_zero,Nat.add_zero] at h0 h0'
       have hrec:=hall I w μ xs ys (n + 1) d fs hg (by omega) (by omega)
        (fun i hi=>by have:=hxc (i + 1) (by simpa using hi); simp only [List.getElem_cons_succ] at this; rwa [show n + 1 + i = n + (i + 1) by omega])
        (fun i hi=>by have:=hyc (i + 1) (by simpa using hi); simp only [List.getElem_cons_succ] at this; rwa [show n + 1 + i = n + (i + 1) by omega])
       rw [Op.eqFields]
       simp only [if_pos hname,Sem.run_bind,hoff,run_part_leaf hk' (show n < xs.size by omega),run_part_leaf hk' (show n < ys.size by omega),Result.andThen_ok,hb I w μ _ _ d _ h0 h0' hk']
       cases b
       ·simp
       ·simpa using hrec
     ·cases hf
  unfold eqKs at h
  split at h
  ·rename_i e1; cases e1
  ·rename_i e1
   cases e1
   exact step _ _ _ _ _ rfl rfl h (fun I w μ u v d t hu hv hk=>by
    obtain rfl:=hu.lit_eq
    obtain rfl:=hv.lit_eq
    exact run_equalIn_string w d t _ _ (leaf_u.1 hk))
  ·rename_i e1
   cases e1
   replace h:=ifK_elim h
   obtain ⟨e2,h⟩:=h
   subst e2
   exact step _ _ _ _ _ rfl rfl h (fun I w μ u v d t hu hv hk=>by
    obtain rfl:=hu.lit_eq
    obtain rfl:=hv.lit_eq
    obtain ⟨k',hk'⟩:=leaf_u.2.2 hk
    exact run_equalIn_int w d t _ k' _ _ hk')
  ·rename_i e1
   cases e1
   exact step _ _ _ _ _ rfl rfl h (fun I w μ u v d t hu hv hk=>by
    obtain rfl:=hu.lit_eq
    obtain rfl:=hv.lit_eq
    exact run_equalIn_bool' w d t _ _ (leaf_u.2.1 hk))
  ·exact h.elim
structure EqS (P:Program) (t:TypeId) (cs ds:List AV) (K:Bool → Prop):Prop where
 ex:∃ ks,flatQ P t = some ks ∧ eqKs ks cs ds K
def abin2 (P:Program) (op:BinOp) (t:TypeId) (x y:AV) (K:AV → Prop):Prop :=
 match x,y with
 | .agg cs,.agg ds =>
  match op with
  | .eql=>EqS P t cs ds (fun r=>K (.lit (.bool r)))
  | .neq=>EqS P t cs ds (fun r=>K (.lit (.bool (!r))))
  | _=>False
 | x,y=>abin P op t x y K
theorem eqS_ok [KN:Know] {P:Program} {t:TypeId} {cs ds:List AV} {K:Bool → Prop} (h:EqS P t cs ds K) :
  ∃ r,K r ∧ ∀ (I:Nat → Prop) (w:World) (μ:MM) (u v:Value) (op:BinOp) (ox oy:Operand),RelV I w μ (.agg cs) u → RelV I w μ (.agg ds) v →
   (eqGuard op t ox oy u v).run P w = .ok () w ∧ (binOp .eql t u v).run P w = .ok (.bool r) w ∧ (binOp .neq t u v).run P w = .ok (.bool (!r)) w:=by
 obtain ⟨ks,hq,hk⟩:=h.ex
 obtain ⟨r,hK,hall⟩:=eqKs_ok (P:=P) hk
 refine ⟨r,hK,fun I w μ u v op ox oy hu hv=>?_⟩
 obtain ⟨xs,rfl,hx,hxc⟩:=hu.agg_inv
 obtain ⟨ys,rfl,hy,hyc⟩:=hv.agg_inv
 unfold flatQ at hq
 split at hq
 ·cases hq
 ·rename_i hc
  simp only [Bool.or_eq_true,not_or,Bool.not_eq_true] at hc
  split at hq
  ·rename_i fs hfs
   have hf:P.fieldsOf t = fs:=by simp [Program.fieldsOf,hfs]
   have e:=hall I w μ xs ys 0 9998 fs.toList hq (by omega) (by omega) (fun i hi=>by simpa using hxc i hi) (fun i hi=>by simpa using hyc i hi)
   have e2:(Op.equalIn 10000 t (.agg xs) (.agg ys)).run P w = .ok r w:=by
    rw [run_equalIn_struct (P:=P) w 9999 t xs ys (by rw [hf]; exact hfs) hc.1,hf]
    exact e
   refine ⟨run_eqGuard_agg w op t ox oy xs ys hc.2,?_,?_⟩
   ·rw [run_eql_struct,e2]; rfl
   ·rw [run_neq_struct,e2]; rfl
  ·cases hq
theorem abin2_ok [KN:Know] {P:Program} {op:BinOp} {t:TypeId} {x y:AV} {K:AV → Prop} (h:abin2 P op t x y K) :
  ∃ av,K av ∧ ∀ (I:Nat → Prop) (w:World) (μ:MM) (u v:Value) (ox oy:Operand),RelV I w μ x u → RelV I w μ y v →
   ∃ r,(do eqGuard op t ox oy u v; binOp op t u v:Sem Value).run P w = .ok r w ∧ RelV I w μ av r:=by
 unfold abin2 at h
 split at h
 ·split at h
  ·obtain ⟨r,hK,hall⟩:=eqS_ok h
   refine ⟨_,hK,fun I w μ u v ox oy hu hv=>?_⟩
   obtain ⟨h1,h2,h3⟩:=hall I w μ u v .eql ox oy hu hv
   exact ⟨.bool r,by simp only [Sem.run_bind,h1,Result.andThen_ok,h2],.lit _ _⟩
  ·obtain ⟨r,hK,hall⟩:=eqS_ok h
   refine ⟨_,hK,fun I w μ u v ox oy hu hv=>?_⟩
   obtain ⟨h1,h2,h3⟩:=hall I w μ u v .neq ox oy hu hv
   exact ⟨.bool (!r),by simp only [Sem.run_bind,h1,Result.andThen_ok,h3],.lit _ _⟩
  ·exact h.elim
 ·exact abin_ok h
theorem SOp.bin2 [KN:Know] {P:Program} {n:Nat} {o:Oper} {N:St → Prop} {st:St} {op:BinOp} {t u:TypeId} {x y:Operand} (ho:o.op = .binOp op t x y u) (h:abin2 P op t (aeval st x) (aeval st y) (fun v=>N (st.put o.dst v))):SOp P n o N st:=by
 obtain ⟨av,hN,hr⟩:=abin2_ok h
 refine SOp.pure (fun I μ a w R=>?_) hN
 obtain ⟨r,h1,h2⟩:=hr I w μ _ _ x y (R.eval x) (R.eval y)
 simp only [Sem.run_bind] at h1
 refine ⟨r,?_,h2⟩
 simp only [execOp,ho,Sem.run_bind]
 rw [h1]; rfl
end Go.Q
namespace Go.Q
open Go
def ifB (b:Bool) (A B:Prop):Prop:=match b with | true=>A | false=>B
def alive (h:List AObj) (k:Nat):Bool:=match h[k]? with | some (.arr _ _) | some (.box _)=>true | _=>false
theorem alive_ok {h:List AObj} {k:Nat} (ha:alive h k = true):∃ ob,h[k]? = some ob ∧ ob ≠ .dead:=by
 unfold alive at ha
 split at ha
 ·rename_i e; exact ⟨_,e,by simp⟩
 ·rename_i e; exact ⟨_,e,by simp⟩
 ·cases ha
def reform (e:AV) (cs:List AV):AV:=match e with | .agg _=>.agg cs | _=>cs.headD .undef
def baseOf (st:St) (x:AV) (K:Option Nat → List AV → Prop) (s:Nat):Prop :=
 match x with
 | .nils=>K none []
 | .ref k off len=>match st.h[k]? with
  | some (.arr s' es)=>ifK (s' = s) (Side (off + len ≤ es.length) (K (some k) ((es.drop off).take len)))
  | _=>False
 | _=>False
def srcOf (st:St) (x:AV) (K:List AV → Prop) (s:Nat):Prop :=
 match x with
 | .nils=>K []
 | .vs s' es=>ifK (s' = s) (Side (OneCells es) (K es))
 | .ref k off len=>match st.h[k]? with
  | some (.arr s' es)=>ifK (s' = s) (Side (off + len ≤ es.length ∧ OneCells es) (K ((es.drop off).take len)))
  | _=>False
 | .lit (.string b)=>ifK (s = 1) (K (b.data.toList.map fun c=>.lit (.int .u8 c.toNat)))
 | _=>False
theorem baseOf_ok [_KN:Know] {st:St} {x:Operand} {s:Nat} {K:Option Nat → List AV → Prop} (h:baseOf st (aeval st x) K s):∃ ko bs,Base st x s ko bs ∧ K ko bs:=by
 unfold baseOf at h
 split at h
 ·rename_i hx; exact ⟨none,[],.inl ⟨hx,rfl,rfl⟩,h⟩
 ·rename_i k off len hx
  split at h
  ·rename_i s' es hk
   replace h:=ifK_elim h
   obtain ⟨rfl,h⟩:=h
   obtain ⟨hle,hK⟩:=h
   exact ⟨_,_,.inr ⟨k,off,len,es,hx,hk,hle,rfl,rfl⟩,hK⟩
  ·exact h.elim
 ·exact h.elim
theorem srcOf_ok [KN:Know] {P:Program} {st:St} {x:Operand} {s:Nat} (hs:0 < s) {K:List AV → Prop} (h:srcOf st (aeval st x) K s):∃ xs,Src P st x s xs ∧ K xs:=by
 unfold srcOf at h
 split at h
 ·rename_i hx; exact ⟨[],Src.nils hx,h⟩
 ·rename_i s' es hx
  replace h:=ifK_elim h
  obtain ⟨rfl,h⟩:=h
  obtain ⟨h1,hK⟩:=h
  exact ⟨es,Src.vs hs hx h1,hK⟩
 ·rename_i k off len hx
  split at h
  ·rename_i s' es hk
   replace h:=ifK_elim h
   obtain ⟨rfl,h⟩:=h
   obtain ⟨⟨hle,h1⟩,hK⟩:=h
   exact ⟨_,Src.ref hs hx hk hle h1,hK⟩
  ·exact h.elim
 ·rename_i b hx
  replace h:=ifK_elim h
  obtain ⟨rfl,hK⟩:=h
  exact ⟨_,Src.str hx,hK⟩
 ·exact h.elim
def sliceTo (P:Program) (t:TypeId):Option (TypeId × Nat) :=
 match P.underlying t with
 | some (.slice e)=>match sizeQ P e with | some s=>some (e,s) | none=>none
 | _=>none
theorem sliceTo_ok {P:Program} {t e s:Nat} (h:sliceTo P t = some (e,s)):P.underlying t = some (.slice e) ∧ sizeQ P e = some s:=by
 unfold sliceTo at h
 split at h
 ·rename_i e' hu
  split at h
  ·rename_i s' hs; cases h; exact ⟨hu,hs⟩
  ·cases h
 ·cases h
def isStr (P:Program) (t:TypeId):Bool:=match P.underlying t with | some .string=>true | _=>false
theorem isStr_ok {P:Program} {t:TypeId} (h:isStr P t = true):P.underlying t = some .string:=by
 unfold isStr at h
 split at h
 ·assumption
 ·cases h
structure ElemInfo where
 size:Nat
 bytes:Nat
 zero:AV
def elemInfo (P:Program) (e:TypeId):Option ElemInfo :=
 match P.info? e with
 | some i=>match i.zero with
  | some z=>if 0 < i.size ∧ z.cells.size = i.size ∧ z.cells.toList.all Value.oneCell' = true then some ⟨i.size,i.bytes,constAV z⟩ else none
  | none=>none
 | none=>none
theorem elemInfo_ok {P:Program} {e:TypeId} {E:ElemInfo} (h:elemInfo P e = some E) :
  ∃ i z,P.info? e = some i ∧ i.zero = some z ∧ i.size = E.size ∧ i.bytes = E.bytes ∧ E.zero = constAV z ∧ 0 < E.size ∧ z.cells.size = E.size ∧ z.cells.toList.all Value.oneCell' = true:=by
 unfold elemInfo at h
 split at h
 ·rename_i i hi
  split at h
  ·rename_i z hz
   split at h
   ·rename_i hc; cases h; exact ⟨i,z,hi,hz,rfl,rfl,rfl,hc.1,hc.2.1,hc.2.2⟩
   ·cases h
  ·cases h
 ·cases h
def appendable (P:Program) (u:TypeId):Bool:=match P.underlying u with | some .string | some (.slice _)=>true | _=>false
theorem appendable_ok {P:Program} {u:TypeId} (h:appendable P u = true):P.underlying u = some .string ∨ ∃ e,P.underlying u = some (.slice e):=by
 unfold appendable at h
 split at h
 ·rename_i e; exact .inl e
 ·rename_i e' e; exact .inr ⟨_,e⟩
 ·cases h
def loadableB (P:Program) (t:TypeId) (c:AV):Bool :=
 match aggQ P t with
 | some true=>c.isAgg && sizeQ P t == some c.cells.length
 | some false=>!c.isAgg
 | none=>false
theorem loadableB_ok {P:Program} {t:TypeId} {c:AV} (h:loadableB P t c = true):loadable P t c:=by
 unfold loadableB at h
 unfold loadable
 split at h
 ·rename_i e; rw [e]; simp at h; exact h
 ·rename_i e; rw [e]; simpa using h
 ·cases h
def isByte (P:Program) (t:TypeId):Bool:=match P.underlying t with | some (.int .u8)=>true | _=>false
theorem isByte_ok {P:Program} {t:TypeId} (h:isByte P t = true):P.underlying t = some (.int .u8):=by
 unfold isByte at h
 split at h
 ·assumption
 ·cases h
structure CallN [KN:Know] (P:Program) (n:Nat) (g:FuncId) (args:List AV) (st:St) (K:St → AV → Prop):Prop where
 ok:CallOK P n g args st K
def asliceOp (P:Program) (t:TypeId) (st:St) (x:AV) (lo hi:Option AV) (K:AV → Prop):Prop :=
 match x with
 | .lit (.string s)=>ifK (isStr P t = true) (asl lo hi s.size (fun l r=>K (.lit (.string (s.extract l r)))))
 | .vs s es=>(match sliceTo P t with
  | some (_,s')=>ifK (s' = s) (asl lo hi es.length (fun l r=>K (.vs s ((es.drop l).take (r - l)))))
  | none=>False)
 | .ref k off len=>(match sliceTo P t,st.h[k]? with
  | some (_,s'),some (.arr s _)=>ifK (s' = s) (asl lo hi len (fun l r=>K (.ref k (off + l) (r - l))))
  | _,_=>False)
 | _=>False
def aindexAddr (P:Program) (t:TypeId) (st:St) (x y:AV) (K:AV → Prop):Prop :=
 match y with
 | .lit (.int _ i)=>(match x with
  | .vs s es=>(match sliceTo P t with
   | some (_,s')=>ifK (s' = s) (Side (0 ≤ i) (At es i.toNat fun e=>K (.iptr e)))
   | none=>False)
  | .ref k off len=>(match sliceTo P t,st.h[k]? with
   | some (_,s'),some (.arr s _)=>ifK (s' = s) (Side (0 ≤ i ∧ i < len) (K (.eptr k (off + i.toNat) 0)))
   | _,_=>False)
  | _=>False)
 | _=>False
def aload (P:Program) (t:TypeId) (st:St) (x:AV) (K:AV → Prop):Prop :=
 match x with
 | .iptr c=>ifK (loadableB P t c = true) (K c)
 | .ptr k j=>(match st.h[k]? with
  | some (.box cs)=>(match acut P t cs j with | some v=>K v | none=>False)
  | _=>False)
 | .eptr k i j=>(match st.h[k]? with
  | some (.arr _ es)=>At es i fun e=>(match acut P t e.cells j with | some v=>K v | none=>False)
  | _=>False)
 | _=>False
def astore (P:Program) (t:TypeId) (st:St) (x v:AV) (K:List AObj → Prop):Prop :=
 ifK (cellsQ st.h v = true ∧ sizeQ P t = some v.cells.length)
 (match x with
 | .ptr k j=>(match st.h[k]? with
  | some (.box cs)=>ifK (j + v.cells.length ≤ cs.length) (K (st.h.set k (.box (splice cs j v.cells))))
  | _=>False)
 | .eptr k i j=>(match st.h[k]? with
  | some (.arr s es)=>ifK (pureQ v = true) (At es i fun e=>Side (j + v.cells.length ≤ e.cells.length ∧ (reform e (splice e.cells j v.cells)).cells = splice e.cells j v.cells)
    (K (st.h.set k (.arr s (es.set i (reform e (splice e.cells j v.cells)))))))
  | _=>False)
 | _=>False)
structure BytesN (xs:List AV) (K:List Int → Prop):Prop where
 ex:∃ ns:List Int,xs = (ns.map fun n=>.lit (.int .u8 n)) ∧ K ns
def aconvert (P:Program) (s t:TypeId) (st:St) (x:AV) (K:St → AV → Prop):Prop :=
 match x with
 | .lit (.int _ i)=>(match P.underlying s,P.underlying t with
  | some _,some (.int k)=>K st (.lit (.int k (k.wrap i)))
  | _,_=>False)
 | .lit (.string b)=>(match P.underlying s,P.underlying t with
  | some _,some .string=>K st (.lit (.string b))
  | _,_=>False) ∨ (match P.underlying s,P.underlying t with
  | some .string,some (.slice e)=>ifK (isByte P e = true) (K { st with h:=st.h ++ [.arr 1 (b.data.toList.map fun c=>.lit (.int .u8 c.toNat))] } (.ref st.h.length 0 b.size))
  | _,_=>False)
 | x=>ifK (usable st.h x = true ∧ (alen x).isSome = true)
  (match P.underlying s,P.underlying t with
  | some (.slice e),some .string=>ifK (isByte P e = true) (srcOf st x (fun xs=>BytesN xs fun ns=>K st (.lit (.string (ofInts ns)))) 1)
  | _,_=>False)
def astep [KN:Know] (P:Program) (n:Nat) (o:Oper) (K:St → Prop) (st:St):Prop :=
 match o.op with
 | .move x=>st.putK o.dst (aeval st x) K
 | .assign x=>st.putK o.dst (aeval st x) K
 | .pick c x y=>(match aeval st c with
  | .lit (.bool b)=>ifB b (st.putK o.dst (aeval st x) K) (st.putK o.dst (aeval st y) K)
  | _=>False)
 | .binOp op t x y _=>abin2 P op t (aeval st x) (aeval st y) (fun v=>st.putK o.dst v K)
 | .unOp op _ x=>aun op (aeval st x) (fun v=>st.putK o.dst v K)
 | .extract x i=>(match aeval st x with
  | .tup vs=>(match vs[i]? with | some v=>st.putK o.dst v K | none=>False)
  | _=>False)
 | .field t x f=>(match aeval st x with
  | .agg cs=>(match afield P t cs f with | some v=>st.putK o.dst v K | none=>False)
  | _=>False)
 | .index t x y=>(match aeval st x,aeval st y with
  | .lit (.string s),.lit (.int _ i)=>ifK (isStr P t = true) (Side (0 ≤ i ∧ i < s.size) (st.putK o.dst (.lit (.int .u8 (bt s i))) K))
  | _,_=>False)
 | .slice t x lo hi none=>asliceOp P t st (aeval st x) (lo.map (aeval st)) (hi.map (aeval st)) (fun v=>st.putK o.dst v K)
 | .indexAddr t x y=>aindexAddr P t st (aeval st x) (aeval st y) (fun v=>st.putK o.dst v K)
 | .fieldAddr t x f=>(match aplace P t f with
  | some off=>(match aeval st x with
   | .ptr k j=>ifK (alive st.h k = true) (st.putK o.dst (.ptr k (j + off)) K)
   | .eptr k i j=>ifK (alive st.h k = true) (st.putK o.dst (.eptr k i (j + off)) K)
   | .iptr (.agg cs)=>(match aifield P t cs f with | some c=>st.putK o.dst (.iptr c) K | none=>False)
   | _=>False)
  | none=>False)
 | .load t x=>aload P t st (aeval st x) (fun v=>st.putK o.dst v K)
 | .store t x y=>astore P t st (aeval st x) (aeval st y) (fun h=>({ st with h:=h }:St).putK o.dst .undef K)
 | .alloc t=>(match azero P t with
  | some cs=>({ st with h:=st.h ++ [.box cs] }:St).putK o.dst (.ptr st.h.length 0) K
  | none=>False)
 | .box _ x=>ifK (cellsQ st.h (aeval st x) = true) (({ st with h:=st.h ++ [.box (aeval st x).cells] }:St).putK o.dst (.ptr st.h.length 0) K)
 | .build t parts=>(match abuild P t (parts.toList.map fun p=>(p.1,aeval st p.2)) with
  | some cs=>ifK ((parts.toList.all fun p=>cellsQ st.h (aeval st p.2)) = true) (st.putK o.dst (.agg cs) K)
  | none=>False)
 | .buildSlice t len parts=>(match P.underlying t with
  | some (.slice e)=>(match elemInfo P e with
   | some E=>ifK (len * E.size ≤ 16777216 ∧ (parts.toList.all fun p=>cellsQ [] (aeval st p.2) && pureQ (aeval st p.2)) = true)
    (match setElems E.size (List.replicate len E.zero) (parts.toList.map fun p=>(p.1,aeval st p.2)) with
    | some es=>({ st with h:=st.h ++ [.arr E.size es] }:St).putK o.dst (.ref st.h.length 0 len) K
    | none=>False)
   | none=>False)
  | _=>False)
 | .makeFunc f first captured=>st.putK o.dst (.fn f (first.toList.map (aeval st)) (captured.toList.map (aeval st))) K
 | .makeSlice t x y=>(match P.underlying t,aeval st x,aeval st y with
  | some (.slice e),.lit (.int _ l),.lit (.int _ c)=>(match elemInfo P e with
   | some E=>Side (0 ≤ l ∧ l ≤ c ∧ c ≤ 9223372036854775807 ∧ E.bytes * c ≤ 140737488355328) (({ st with h:=st.h ++ [.arr E.size (List.replicate l.toNat E.zero)] }:St).putK o.dst (.ref st.h.length 0 l.toNat) K)
   | none=>False)
  | _,_,_=>False)
 | .convert s t x=>aconvert P s t st (aeval st x) (fun st' v=>st'.putK o.dst v K)
 | .nilCheck x=>(match aeval st x with
  | .ptr k j=>ifK (alive st.h k = true) (st.putK o.dst (.ptr k j) K)
  | .eptr k i j=>ifK (alive st.h k = true) (st.putK o.dst (.eptr k i j) K)
  | .iptr c=>st.putK o.dst (.iptr c) K
  | _=>False)
 | .call { callee:=.builtin .len,args:=⟨[x]⟩,argTypes:=⟨[t]⟩ }=>(match aeval st x with
  | .lit (.string s)=>ifK (isStr P t = true) (st.putK o.dst (.lit (.int .i64 s.size)) K)
  | v=>(match sliceTo P t,alen v with
   | some _,some m=>ifK (usable st.h v = true) (st.putK o.dst (.lit (.int .i64 m)) K)
   | _,_=>False))
 | .call { callee:=.builtin .max,args:=⟨[x,y]⟩,.. }=>(match aeval st x,aeval st y with
  | .lit (.int k a),.lit (.int _ b)=>st.putK o.dst (.lit (.int k (if b > a then b else a))) K
  | _,_=>False)
 | .call { callee:=.builtin .min,args:=⟨[x,y]⟩,.. }=>(match aeval st x,aeval st y with
  | .lit (.int k a),.lit (.int _ b)=>st.putK o.dst (.lit (.int k (if b < a then b else a))) K
  | _,_=>False)
 | .call { callee:=.builtin .append,args:=⟨[x,y]⟩,argTypes:=⟨[t,u]⟩ }=>(match P.underlying t with
  | some (.slice e)=>(match elemInfo P e with
   | some E=>ifK (appendable P u = true) (baseOf st (aeval st x) (fun ko bs=>srcOf st (aeval st y) (fun xs =>
     Side ((bs.length + xs.length) * E.bytes ≤ 140737488355328 ∧ bs.length + xs.length ≤ 9223372036854775807)
      (({ st with h:=killQ st.h ko ++ [.arr E.size (bs ++ xs)] }:St).putK o.dst (.ref st.h.length 0 (bs.length + xs.length)) K)) E.size) E.size)
   | none=>False)
  | _=>False)
 | .call { callee:=.value f,args,.. }=>(match aeval st f with
  | .fn (.func g) first captured=>CallN P n g (first ++ args.toList.map (aeval st) ++ captured) st (fun st' r=>st'.putK o.dst r K)
  | _=>False)
 | _=>False
theorem ifB_elim {b:Bool} {A B:Prop} (h:ifB b A B):(b = true → A) ∧ (b = false → B):=by
 cases b
 ·exact ⟨fun e=>(by cases e),fun _=>h⟩
 ·exact ⟨fun _=>h,fun e=>(by cases e)⟩
theorem astep_ok [KN:Know] {P:Program} {n:Nat} {o:Oper} {K:St → Prop} {st:St} (h:astep P n o K st):SOp P n o K st:=by
 unfold astep at h
 simp only [St.putK_eq] at h
 split at h
 case h_1 x ho=>exact SOp.move (.inl ho) h
 case h_2 x ho=>exact SOp.move (.inr ho) h
 case h_3 c x y ho =>
  split at h
  ·rename_i b hc
   obtain ⟨h1,h2⟩:=ifB_elim h
   exact SOp.pick ho hc h1 h2
  ·exact h.elim
 case h_4 op t x y u ho=>exact SOp.bin2 ho h
 case h_5 op t x ho=>exact SOp.un ho h
 case h_6 x i ho =>
  split at h
  ·rename_i vs hx
   split at h
   ·rename_i v hv; exact SOp.extract ho hx hv h
   ·exact h.elim
  ·exact h.elim
 case h_7 t x f ho =>
  split at h
  ·rename_i cs hx
   split at h
   ·rename_i v hv; exact SOp.field ho hx hv h
   ·exact h.elim
  ·exact h.elim
 case h_8 t x y ho =>
  split at h
  ·rename_i s k i hx hy
   replace h:=ifK_elim h; obtain ⟨h1,⟨h2,h3⟩,h4⟩:=h
   exact SOp.index ho (isStr_ok h1) hx hy h2 h3 h4
  ·exact h.elim
 case h_9 t x lo hi ho =>
  unfold asliceOp at h
  split at h
  ·rename_i s hx; replace h:=ifK_elim h; exact SOp.sliceStr ho (isStr_ok h.1) hx h.2
  ·rename_i s es hx
   split at h
   ·rename_i e s' hs
    replace h:=ifK_elim h; obtain ⟨rfl,h⟩:=h
    exact SOp.sliceVs ho (sliceTo_ok hs).1 (sliceTo_ok hs).2 hx h
   ·exact h.elim
  ·rename_i k off len hx
   split at h
   ·rename_i e s' s es hs hk
    replace h:=ifK_elim h; obtain ⟨rfl,h⟩:=h
    exact SOp.sliceRef ho (sliceTo_ok hs).1 (sliceTo_ok hs).2 hx hk h
   ·exact h.elim
  ·exact h.elim
 case h_10 t x y ho =>
  unfold aindexAddr at h
  split at h
  ·rename_i k i hy
   split at h
   ·rename_i s es hx
    split at h
    ·rename_i e s' hs
     replace h:=ifK_elim h; obtain ⟨rfl,h0,⟨e,he,h⟩⟩:=h
     exact SOp.indexVs ho (sliceTo_ok hs).1 (sliceTo_ok hs).2 hx hy h0 he h
    ·exact h.elim
   ·rename_i k off len hx
    split at h
    ·rename_i e s' s es hs hk
     replace h:=ifK_elim h; obtain ⟨rfl,⟨h0,h1⟩,h⟩:=h
     exact SOp.indexRef ho (sliceTo_ok hs).1 (sliceTo_ok hs).2 hx hk hy h0 h1 h
    ·exact h.elim
   ·exact h.elim
  ·exact h.elim
 case h_11 t x f ho =>
  split at h
  ·rename_i off hf
   split at h
   ·rename_i k j hx
    replace h:=ifK_elim h
    obtain ⟨ob,h1,h2⟩:=alive_ok h.1
    exact SOp.fieldPtr ho hf hx h1 h2 h.2
   ·rename_i k i j hx
    replace h:=ifK_elim h
    obtain ⟨ob,h1,h2⟩:=alive_ok h.1
    exact SOp.fieldEptr ho hf hx h1 h2 h.2
   ·rename_i cs hx
    split at h
    ·rename_i c hc; exact SOp.fieldIptr ho hf hx hc h
    ·exact h.elim
   ·exact h.elim
  ·exact h.elim
 case h_12 t x ho =>
  unfold aload at h
  split at h
  ·rename_i c hx; replace h:=ifK_elim h; exact SOp.loadI ho hx (loadableB_ok h.1) h.2
  ·rename_i k j hx
   split at h
   ·rename_i cs hk
    split at h
    ·rename_i v hv; exact SOp.loadBox ho hx hk hv h
    ·exact h.elim
   ·exact h.elim
  ·rename_i k i j hx
   split at h
   ·rename_i s es hk
    obtain ⟨e,he,h⟩:=h.ex
    split at h
    ·rename_i v hv; exact SOp.loadRef ho hx hk he hv h
    ·exact h.elim
   ·exact h.elim
  ·exact h.elim
 case h_13 t x y ho =>
  unfold astore at h
  replace h:=ifK_elim h; obtain ⟨⟨h1,h2⟩,h⟩:=h
  split at h
  ·rename_i k j hx
   split at h
   ·rename_i cs hk; replace h:=ifK_elim h; exact SOp.storeBox ho hx hk h1 h2 h.1 h.2
   ·exact h.elim
  ·rename_i k i j hx
   split at h
   ·rename_i s es hk
    replace h:=ifK_elim h; obtain ⟨hp,⟨e,he,⟨h3,h4⟩,h5⟩⟩:=h
    exact SOp.storeRef ho hx hk he h1 hp h2 h3 h4 h5
   ·exact h.elim
  ·exact h.elim
 case h_14 t ho =>
  split at h
  ·rename_i cs hz; exact SOp.alloc ho hz h
  ·exact h.elim
 case h_15 t x ho=>replace h:=ifK_elim h; exact SOp.box ho h.1 h.2
 case h_16 t parts ho =>
  split at h
  ·rename_i cs hb
   replace h:=ifK_elim h
   have h1:=h.1
   simp only [List.all_eq_true] at h1
   exact SOp.build ho hb h1 h.2
  ·exact h.elim
 case h_17 t len parts ho =>
  split at h
  ·rename_i e hu
   split at h
   ·rename_i E hE
    obtain ⟨i,z,hi,hz,hs,hb,hzE,h0,hzs,hz1⟩:=elemInfo_ok hE
    replace h:=ifK_elim h; obtain ⟨⟨h1,h2⟩,h3⟩:=h
    simp only [List.all_eq_true,Bool.and_eq_true] at h2
    split at h3
    ·rename_i es hes
     rw [hzE] at hes
     exact SOp.buildSlice ho hu hi hs h0 hz hzs hz1 h1 hes (fun p hp=>(h2 p hp).1) (fun p hp=>(h2 p hp).2) h3
    ·exact h3.elim
   ·exact h.elim
  ·exact h.elim
 case h_18 f first captured ho=>exact SOp.makeFunc ho h
 case h_19 t x y ho =>
  split at h
  ·rename_i e k l k' c hu hx hy
   split at h
   ·rename_i E hE
    obtain ⟨i,z,hi,hz,hs,hb,hzE,h0,hzs,hz1⟩:=elemInfo_ok hE
    obtain ⟨⟨h1,h2,h3,h4⟩,h5⟩:=h
    rw [hzE] at h5
    exact SOp.makeSlice ho hu hi hs h0 hz hzs hz1 hx hy h1 h2 h3 (by rw [hb]; exact h4) h5
   ·exact h.elim
  ·exact h.elim
 case h_20 s t x ho =>
  unfold aconvert at h
  split at h
  ·rename_i k i hx
   split at h
   ·rename_i d k' hs ht; exact SOp.convInt ho hs ht hx h
   ·exact h.elim
  ·rename_i b hx
   rcases h with h | h
   ·split at h
    ·rename_i d hs ht; exact SOp.convStr ho hs ht hx h
    ·exact h.elim
   ·split at h
    ·rename_i e hs ht; replace h:=ifK_elim h; exact SOp.convToBytes ho hs ht (isByte_ok h.1) hx h.2
    ·exact h.elim
  ·replace h:=ifK_elim h; obtain ⟨⟨h1,h2⟩,h3⟩:=h
   split at h3
   ·rename_i e hs ht
    replace h3:=ifK_elim h3; obtain ⟨he,h4⟩:=h3
    obtain ⟨xs,hsrc,⟨ns,rfl,h5⟩⟩:=srcOf_ok (P:=P) (by omega) h4
    exact SOp.convBytes ho hs (isByte_ok he) ht hsrc (Option.isSome_iff_exists.1 h2) h1 h5
   ·exact h3.elim
 case h_21 x ho =>
  split at h
  ·rename_i k j hx
   replace h:=ifK_elim h
   obtain ⟨ob,h1,h2⟩:=alive_ok h.1
   exact SOp.nilCheck ho hx h1 h2 h.2
  ·rename_i k i j hx
   replace h:=ifK_elim h
   obtain ⟨ob,h1,h2⟩:=alive_ok h.1
   exact SOp.nilCheckE ho hx h1 h2 h.2
  ·rename_i c hx; exact SOp.nilCheckI ho hx h
  ·exact h.elim
 case h_22 x t ho =>
  split at h
  ·rename_i s hx; replace h:=ifK_elim h; exact SOp.lenStr ho (isStr_ok h.1) hx h.2
  ·split at h
   ·rename_i es m hs hm
    obtain ⟨e,s⟩:=es
    replace h:=ifK_elim h
    exact SOp.lenSlice ho (sliceTo_ok hs).1 hm h.1 h.2
   ·exact h.elim
 case h_23 x y _ ho =>
  split at h
  ·rename_i k a k' b hx hy; exact SOp.max2 ho hx hy h
  ·exact h.elim
 case h_24 x y _ ho =>
  split at h
  ·rename_i k a k' b hx hy; exact SOp.min2 ho hx hy h
  ·exact h.elim
 case h_25 x y t u ho =>
  split at h
  ·rename_i e hu
   split at h
   ·rename_i E hE
    obtain ⟨i,z,hi,hz,hs,hb,hzE,h0,hzs,hz1⟩:=elemInfo_ok hE
    replace h:=ifK_elim h; obtain ⟨h1,h2⟩:=h
    obtain ⟨ko,bs,hbase,h3⟩:=baseOf_ok h2
    obtain ⟨xs,hsrc,⟨h4,h5⟩,h6⟩:=srcOf_ok (P:=P) h0 h3
    exact SOp.append ho hu (appendable_ok h1) hi hs h0 hz hzs hbase hsrc (by rw [hb]; exact h4) h5 h6
   ·exact h.elim
  ·exact h.elim
 case h_26 f args ts ho =>
  split at h
  ·rename_i g first captured hf; exact SOp.call ho hf h.ok
  ·exact h.elim
 case h_27=>exact h.elim
end Go.Q
