import Derived.Test.YtmfhkipeapdfmaaGreatDoorZA
namespace Go.Q
open Go Go.RowKit Go.ChangeShapes Go.WideShapes
section
variable {P:Program} {H:Type} {enc:TypeId × Value → H} {w:World} {sp:Nat → Bool} {held:Bool}
def Opn (P:Program) {H:Type} (enc:TypeId × Value → H) (w:World) (sp:Nat → Bool) (held:Bool) (t:TypeId) (A:AV → Prop) (f:Nat):Prop :=
  ∀ (cs:List Value) (y:DataW H × List MemPlace),DataW.trod enc P w 0 sp held f t cs = some y →
    ∃ a,A a ∧ a.cells.length = cs.length ∧ ∀ j (h1:j < a.cells.length) (h2:j < cs.length),RelV (fun b=>b < w.heap.size) w [] a.cells[j] cs[j]
theorem Opn.zero {t:TypeId} {A:AV → Prop}:Opn P enc w sp held t A 0:=fun cs y h=>by simp [DataW.trod] at h
theorem Opn.imp {t:TypeId} {A B:AV → Prop} {f:Nat} (h:Opn P enc w sp held t A f) (hAB:∀ a,A a → B a):Opn P enc w sp held t B f:=fun cs y hy=>by
  obtain ⟨a,h1,h2⟩:=h cs y hy
  exact ⟨a,hAB a h1,h2⟩
theorem Opn.lit1 {v:Value}:(AV.lit v).cells.length = [v].length ∧ ∀ j (_h1:j < (AV.lit v).cells.length) (h2:j < [v].length),RelV (fun b=>b < w.heap.size) w [] (AV.lit v).cells[j] [v][j] :=
  ⟨rfl,fun j h1 h2=>by
    have:j = 0:=by simpa using h2
    subst this; exact .lit _ _⟩
theorem Opn.bool {t:TypeId} (ht:P.underlying t = some .bool) (f:Nat):Opn P enc w sp held t (fun a=>∃ c,a = .lit (.bool c)) f:=fun cs y h=>by
  obtain ⟨v,rfl,c,rfl⟩:=trod_leaf (x:=.b) ht h
  exact ⟨_,⟨c,rfl⟩,Opn.lit1⟩
theorem Opn.string {t:TypeId} (ht:P.underlying t = some .string) (f:Nat):Opn P enc w sp held t (fun a=>∃ s:ByteArray,a = .lit (.string s) ∧ s.size ≤ maxLen) f:=fun cs y h=>by
  obtain ⟨s,rfl,_,hs⟩:=DataW.trod_string ht h
  exact ⟨_,⟨s,rfl,hs⟩,Opn.lit1⟩
theorem Opn.int {t:TypeId} {k:IntKind} (ht:P.underlying t = some (.int k)) (f:Nat):Opn P enc w sp held t (fun a=>∃ n:Int,a = .lit (.int k n) ∧ k.min ≤ n ∧ n ≤ k.max) f:=fun cs y h=>by
  obtain ⟨n,rfl,_,hs⟩:=DataW.trod_int ht h
  unfold Lit.wf at hs
  simp only [Bool.and_eq_true,decide_eq_true_eq] at hs
  exact ⟨_,⟨n,rfl,hs⟩,Opn.lit1⟩
theorem list_of {α:Type} {Q:Nat → α → Prop}:∀ {n:Nat},(∀ i,i < n → ∃ x,Q i x) → ∃ l:List α,l.length = n ∧ ∀ i (h:i < l.length),Q i l[i]
  | 0,_=>⟨[],rfl,fun i h=>by simp at h⟩
  | n + 1,h=>by
    obtain ⟨l,hl,hq⟩:=list_of (n:=n) (fun i hi=>h i (by omega))
    obtain ⟨x,hx⟩:=h n (by omega)
    refine ⟨l ++ [x],by simp [hl],fun i hi=>?_⟩
    by_cases h1:i < l.length
    · rw [List.getElem_append_left h1]; exact hq i h1
    · have:i = l.length:=by simp at hi; omega
      subst this
      simp only [List.getElem_append_right (Nat.le_refl _),Nat.sub_self,List.getElem_cons_zero]
      rw [hl]; exact hx
theorem Opn.slice {t e:TypeId} {A:AV → Prop} {f:Nat} (ht:P.underlying t = some (.slice e)) (h0:0 < P.cellsOf e) (hA:Opn P enc w sp held e A f) :
    Opn P enc w sp held t (fun a=>∃ l:List AV,a = .vs (P.cellsOf e) l ∧ l.length < 2 ^ 63 ∧ ∀ r ∈ l,A r) (f + 1):=fun cs y h=>by
  rcases DataW.trod_slice ht h with ⟨rfl,_⟩ | ⟨a,len,cap,elems,rest,n,hn,rfl,_,_,hle,hcap,hlen,hel,_,_⟩
  · refine ⟨.vs (P.cellsOf e) [],⟨[],rfl,by decide,by simp⟩,rfl,fun j h1 h2=>?_⟩
    have:j = 0:=by simpa using h2
    subst this
    exact .vs [] _ [] none 0 (fun _ _=>Go.undef) (by simp) (fun h=>by simp at h) (fun i hi=>by simp at hi) (fun i hi=>by simp at hi)
  · obtain rfl:n = f:=by omega
    have each:∀ i,i < len → ∃ r,(A r ∧ r.cells.length = P.cellsOf e) ∧ ∀ j (hj:j < r.cells.length),∃ v,w.cell? ((a.add (i * P.cellsOf e)).add j) = some v ∧ RelV (fun b=>b < w.heap.size) w [] r.cells[j] v:=by
      intro i hi
      have e1:=hel i hi
      rw [List.getElem?_eq_getElem (by omega)] at e1
      obtain ⟨cs,hc,ht⟩:=Option.bind_eq_some_iff.1 e1
      obtain ⟨r,hr,hl,hrel⟩:=hA cs _ ht
      obtain ⟨_,hcl,hc2⟩:=World.cells?_some hc
      refine ⟨r,⟨hr,by omega⟩,fun j hj=>?_⟩
      have:=hc2 j (by omega)
      rw [List.getElem?_eq_getElem (by omega)] at this
      exact ⟨_,this,hrel j hj (by omega)⟩
    have hspot:0 < len → a.spot = none:=by
      intro h1
      obtain ⟨r,⟨_,hl⟩,e1⟩:=each 0 h1
      obtain ⟨v,e1,_⟩:=e1 0 (by omega)
      simp only [Nat.zero_mul,Addr.add,if_true] at e1
      unfold World.cell? at e1
      split at e1
      · split at e1
        · cases e1
        · rename_i hs; simpa using hs
      · cases e1
    have ha:0 < len → a = ⟨a.block,a.off,none⟩:=fun h1=>by have:=hspot h1; cases a; simp_all
    have hadd:0 < len → ∀ i j,(a.add (i * P.cellsOf e)).add j = ⟨a.block,a.off + i * P.cellsOf e + j,none⟩:=by
      intro h1 i j
      have hs:=hspot h1
      have q0:a.add (i * P.cellsOf e) = ⟨a.block,a.off + i * P.cellsOf e,none⟩:=by
        unfold Addr.add
        split
        · rename_i hz; rw [hz]; cases a; simp_all
        · rfl
      rw [q0]
      unfold Addr.add
      split
      · rename_i hz; rw [hz]; rfl
      · rfl
    obtain ⟨l,hll,hl⟩:=list_of each
    have hcell:∀ i (hi:i < l.length) j (hj:j < (l[i]).cells.length),w.cell? ⟨a.block,a.off + i * P.cellsOf e + j,none⟩ = some (valAt0 w a.block (a.off + i * P.cellsOf e + j)) ∧ RelV (fun b=>b < w.heap.size) w [] (l[i]).cells[j] (valAt0 w a.block (a.off + i * P.cellsOf e + j)):=by
      intro i hi j hj
      obtain ⟨v,e1,hr⟩:=(hl i hi).2 j hj
      rw [hadd (by omega) i j] at e1
      have e2:valAt0 w a.block (a.off + i * P.cellsOf e + j) = v:=by simp only [valAt0,e1,Option.getD_some]
      rw [e2]; exact ⟨e1,hr⟩
    refine ⟨.vs (P.cellsOf e) l,⟨l,rfl,by unfold maxLen at hcap; omega,fun r hr=>?_⟩,rfl,fun j h1 h2=>?_⟩
    · obtain ⟨i,hi,rfl⟩:=List.getElem_of_mem hr
      exact (hl i hi).1.1
    · have:j = 0:=by simpa using h2
      subst this
      have hR:=RelV.vs (I:=fun b=>b < w.heap.size) (w:=w) [] (P.cellsOf e) l (some a) cap (fun i j=>valAt0 w a.block (a.off + i * P.cellsOf e + j)) (by omega)
        (fun h3=>by
          refine ⟨a.block,a.off,by rw [← ha (by omega)],?_,fun i j hi hj=>?_⟩
          · have e1:=(hcell 0 h3 0 (by rw [(hl 0 h3).1.2]; exact h0)).1
            unfold World.cell? at e1
            rcases Nat.lt_or_ge a.block w.heap.size with h4 | h4
            · exact h4
            · rw [Array.getElem?_eq_none h4] at e1; simp at e1
          · exact (hcell i hi j (by rw [(hl i hi).1.2]; exact hj)).1)
        (fun i hi=>(hl i hi).1.2)
        (fun i hi j hj=>(hcell i hi j hj).2)
      rw [hll] at hR
      exact hR
theorem Opn.struct {t:TypeId} {fs:Array Field} {As:List (AV → Prop)} {f:Nat} (ht:P.underlying t = some (.struct fs)) (hn:P.cellsOf t = fs.size) (hl:As.length = fs.size)
    (hf:∀ (i:Nat) (fd:Field) (A:AV → Prop),fs[i]? = some fd → As[i]? = some A → fd.offset = i ∧ P.cellsOf fd.type = 1 ∧ (∀ a,A a → a.cells = [a]) ∧ Opn P enc w sp held fd.type A f) :
    Opn P enc w sp held t (fun a=>∃ as:List AV,a = .agg as ∧ as.length = As.length ∧ ∀ (i:Nat) (A:AV → Prop) (x:AV),As[i]? = some A → as[i]? = some x → A x) (f + 1):=fun cs y h=>by
  obtain ⟨zs,n,hn',_,hcl,hz,hfl⟩:=DataW.trod_struct ht h
  obtain rfl:n = f:=by omega
  have each:∀ i,i < fs.size → ∃ x,(∀ A,As[i]? = some A → A x) ∧ ∀ v,cs[i]? = some v → RelV (fun b=>b < w.heap.size) w [] x v:=by
    intro i hi
    have e1:=hfl i fs[i] (Array.getElem?_eq_getElem hi)
    obtain ⟨ho,hc,hcell,hop⟩:=hf i fs[i] As[i] (Array.getElem?_eq_getElem hi) (List.getElem?_eq_getElem (by omega))
    rw [ho,hc,List.getElem?_eq_getElem (by omega)] at e1
    obtain ⟨a,hA,hla,hr⟩:=hop _ _ e1
    have hic:i < cs.length:=by omega
    have ecs:(cs.drop i).take 1 = [cs[i]]:=by
      rw [List.drop_eq_getElem_cons hic,List.take_succ_cons,List.take_zero]
    refine ⟨a,fun A hA'=>?_,fun v hv=>?_⟩
    · rw [List.getElem?_eq_getElem (by omega)] at hA'
      cases hA'; exact hA
    · rw [List.getElem?_eq_getElem hic] at hv
      cases hv
      have hca:=hcell a hA
      have:=hr 0 (by rw [hca]; exact Nat.zero_lt_one) (by rw [ecs]; exact Nat.zero_lt_one)
      simp only [hca,ecs,List.getElem_cons_zero] at this
      exact this
  obtain ⟨as,hal,has⟩:=list_of each
  refine ⟨.agg as,⟨as,rfl,by omega,fun i A x hA hx=>?_⟩,by show as.length = cs.length; omega,fun j h1 h2=>?_⟩
  · have hi:i < as.length:=by
      rcases Nat.lt_or_ge i as.length with h1 | h1
      · exact h1
      · rw [List.getElem?_eq_none h1] at hx; cases hx
    rw [List.getElem?_eq_getElem hi] at hx
    cases hx
    exact (has i hi).1 A hA
  · have hj:j < as.length:=h1
    exact (has j hj).2 _ (List.getElem?_eq_getElem h2)
theorem Opn.arg_struct {t:TypeId} {A:AV → Prop} {fs:Array Field} (ht:P.underlying t = some (.struct fs)) {v:Value} {d:DataW H} {ps:List MemPlace} {r:Reach} {b0:Nat} (hO:∀ f,Opn P enc w sp held t A f) (hc:∀ a,A a → ∃ as,a = .agg as)
    (hval:Value.okWide P w r b0 t v) (h:DataW.Trod enc P w 0 sp held t v d ps):∃ a,A a ∧ RelV (fun b=>b < w.heap.size) w [] a v:=by
  obtain ⟨fuel,h⟩:=h
  obtain ⟨a,hA,hl,hr⟩:=hO fuel _ _ h
  obtain ⟨as,rfl⟩:=hc a hA
  unfold Value.okWide at hval
  rw [ht] at hval
  have key:∀ arr:Array Value,v = .agg arr → RelV (fun b=>b < w.heap.size) w [] (.agg as) v:=by
    rintro arr rfl
    have hl':as.length = arr.size:=by
      have:as.length = arr.toList.length:=hl
      simpa using this
    refine .agg _ _ _ hl'.symm (fun i hi=>?_)
    have h2:i < arr.toList.length:=by simp; omega
    have:=hr i hi h2
    have e1:arr.getD i Go.undef = arr.toList[i]:=by
      have h3:i < arr.size:=by omega
      simp [Array.getD,h3]
    rw [e1]
    exact this
  cases v <;> simp only at hval <;> first | exact hval.elim | skip
  all_goals first
    | exact ⟨_,hA,key _ rfl⟩
    | (exfalso; simp_all)
end
end Go.Q
