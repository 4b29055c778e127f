import Derived.Test.YtoecgpemlfoogaaGreatDoorFD
import Derived.Lib.Strings
namespace Go.Q
open Go
def restrictH (o:Oper) (s:St) (h:List AObj):St:=⟨s.n,(tmpsOf o).map (fun t=>(t,s.get t)),h⟩
def MO [KN:Know] (P:Program) (o:Oper) (s:St) (h:List AObj) (av:AV) (h':List AObj):Prop :=
 SOp P h.length o (fun st''=>st'' = { (restrictH o s h).put o.dst av with h:=h' }) (restrictH o s h)
structure TraceM [KN:Know] (P:Program) (ops:Array Oper) (mem:Nat → Bool) (B:Nat → List Nat) (st0:St) (tr:List AV) (hN:Nat → List AObj) (sF:St):Prop where
 h0:hN 0 = st0.h
 pure:∀ i,i < ops.size → mem i = false → hN (i + 1) = hN i
 chain:∀ a b,a < b → b < ops.size → mem a = true → mem b = true → a ∈ B b
 seq:∀ i o,ops.toList[i]? = some o → seqSt ops.toList tr (i + 1) st0 = (seqSt ops.toList tr i st0).put o.dst (tr.getD i .undef)
 get:∀ d,sF.get d = (seqSt ops.toList tr ops.toList.length st0).get d
 n:sF.n = st0.n
 h:sF.h = hN ops.size
 ops:∀ i o,ops.toList[i]? = some o → ∃ s:St,s.n = (seqSt ops.toList tr i st0).n ∧ (∀ d,s.get d = (seqSt ops.toList tr i st0).get d) ∧
  if mem i = true then o.guard = none ∧ MO P o s (hN i) (tr.getD i .undef) (hN (i + 1))
  else match o.guard with
   | none=>∀ c,c ≤ ops.size → (∀ m,mem m = true → m ∈ B i → m < c) → (∀ m,mem m = true → m < c → i ∉ B m) → MO P o s (hN c) (tr.getD i .undef) (hN c)
   | some (j,want)=>∃ d,(ops[j]?).bind (·.dst) = some d ∧ ((∃ b,s.get d = .lit (.bool b) ∧ ((b = want ∧ ∀ c,c ≤ ops.size → (∀ m,mem m = true → m ∈ B i → m < c) → (∀ m,mem m = true → m < c → i ∉ B m) → MO P o s (hN c) (tr.getD i .undef) (hN c)) ∨ (b ≠ want ∧ tr.getD i .undef = .tup []))) ∨ (s.get d = .tup [] ∧ tr.getD i .undef = .tup []))
theorem TraceM.stay [KN:Know] {P:Program} {ops:Array Oper} {mem:Nat → Bool} {B:Nat → List Nat} {st0:St} {tr:List AV} {hN:Nat → List AObj} {sF:St} (T:TraceM P ops mem B st0 tr hN sF) (c:Nat):∀ i,c ≤ i → i ≤ ops.size → (∀ m,c ≤ m → m < i → mem m = false) → hN i = hN c:=by
 intro i
 induction i with
 | zero=>intro h _ _; rw [show c = 0 by omega]
 | succ i ih =>
  intro h hs hm
  by_cases he:c = i + 1
  ·rw [he]
  ·rw [T.pure i (by omega) (hm i (by omega) (by omega))]
   exact ih (by omega) (by omega) (fun m h1 h2=>hm m h1 (by omega))
theorem SWP.drawM [KN:Know] {P:Program} {n id:Nat} {ops:Array Oper} {Q:Exit → St → Prop} {st0 sF:St} {tr:List AV} {mem:Nat → Bool} {hN:Nat → List AObj} (hm:P.follows .mixedOrders = true) (hd:drawOk ops = true)
  (ht:TraceM P ops mem (fun i=>(befores ops.toList []).getD i []) st0 tr hN sF) (hQ:Q .normal sF) :
  SWP P n (.region id ops true) Q st0:=by
 intro I μ a w R hn
 have D:=drawOk_ok hd
 have hAt:=ht.ops
 have hseq:=seq_get st0 tr ht.seq
 have hlen:ops.toList.length = ops.size:=by simp
 refine wp_region_draw (fun t=>?_)
 have O:=schedule_order D hm t
 generalize Region.schedule (P.follows .mixedOrders) ops t = π at O
 have hB:∀ p i,π[p]? = some i → ∀ k ∈ (befores ops.toList []).getD i [],k ∈ π.take p:=fun p i hp=>O.before D i p hp
 have clash_of:∀ i k,i < ops.size → k < ops.size → i < k → ∀ t,dstAt ops k = some t → (dstAt ops i = some t ∨ (∀ o,ops.toList[i]? = some o → t ∈ readsOf ops o)) → i ∈ (befores ops.toList []).getD k []:=by
  intro i k hi hk hik t hdk hor
  have ho:ops.toList[i]? = some ops[i]:=by rw [Array.getElem?_toList,Array.getElem?_eq_getElem hi]
  have hp:ops.toList[k]? = some ops[k]:=by rw [Array.getElem?_toList,Array.getElem?_eq_getElem hk]
  have hdk':ops[k].dst = some t:=by simpa [dstAt,Array.getElem?_eq_getElem hk] using hdk
  refine D.clash k i _ _ hik hp ho ?_
  unfold clash
  rw [hdk']
  rcases hor with h1 | h1
  ·have:ops[i].dst = some t:=by simpa [dstAt,Array.getElem?_eq_getElem hi] using h1
   rw [this]; simp
  ·have:=h1 _ ho
   simp [this]
 have clash_of2:∀ i k,i < ops.size → k < ops.size → k < i → ∀ t,dstAt ops k = some t → (dstAt ops i = some t ∨ (∀ o,ops.toList[i]? = some o → t ∈ readsOf ops o)) → k ∈ (befores ops.toList []).getD i []:=by
  intro i k hi hk hik t hdk hor
  have ho:ops.toList[i]? = some ops[i]:=by rw [Array.getElem?_toList,Array.getElem?_eq_getElem hi]
  have hp:ops.toList[k]? = some ops[k]:=by rw [Array.getElem?_toList,Array.getElem?_eq_getElem hk]
  have hdk':ops[k].dst = some t:=by simpa [dstAt,Array.getElem?_eq_getElem hk] using hdk
  refine D.clash i k _ _ hik ho hp ?_
  unfold clash
  rw [hdk']
  rcases hor with h1 | h1
  ·have:ops[i].dst = some t:=by simpa [dstAt,Array.getElem?_eq_getElem hi] using h1
   rw [this]; simp
  ·have:=h1 _ ho
   simp [this]
 have dst_lt:∀ k t,dstAt ops k = some t → k < ops.size:=fun k t h=>by
  unfold dstAt at h
  rcases Nat.lt_or_ge k ops.size with h1 | h1
  ·exact h1
  ·rw [Array.getElem?_eq_none h1] at h; cases h
 let w0:World:={ w with drawn:=w.drawn + 1 }
 have hw0:w0.heap = w.heap:=rfl
 have main:∀ m p,p + m = ops.size → ∀ c,c ≤ ops.size → (∀ m,mem m = true → (m ∈ π.take p ↔ m < c)) → ∀ (I':Nat → Prop) (μ':MM) (a':Act) (w':World),(∀ t,RelV I' w' μ' (GS ops st0 tr (π.take p) ops.size t) (a'.tmps.getD t Go.undef)) → a'.tmps.size = st0.n → a'.defers = [] → RelH I' μ' (hN c) w' → Step I μ w I' μ' w' → Pre n μ μ' →
   wpOps P ops (Post n I μ w Q) (π.drop p) a' w':=by
  intro m
  induction m with
  | zero =>
   intro p hp c hcs hc I' μ' a' w' hT hsz hdf hH hS hpre
   have hpl:p = π.length:=by rw [O.len]; omega
   have hall:∀ x,x < ops.size → x ∈ π:=by
    intro x hx
    by_cases hm:x ∈ π
    ·exact hm
    ·exfalso
     have hlen:=nodup_le (l:=x :: π) (acc:=List.range ops.size) (List.nodup_cons.2 ⟨hm,O.nodup⟩) (fun y hy=>by
      rcases List.mem_cons.1 hy with rfl | hy
      ·simpa using hx
      ·simpa using O.lt y hy)
     simp [O.len] at hlen
     omega
   have hend:hN ops.size = hN c:=ht.stay c ops.size hcs (Nat.le_refl _) (fun m h1 h2=>by
    cases hmm:mem m with
    | false=>rfl
    | true =>
     have:=(hc m hmm).1 (by rw [hpl,List.take_length]; exact hall m h2)
     omega)
   rw [hpl,List.drop_length]
   refine ⟨I',μ',sF,hQ,⟨fun t=>?_,by rw [hsz,ht.n],hdf,?_⟩,hS,hpre⟩
   ·have h1:=hT t
    rw [hpl,List.take_length] at h1
    rw [GS_same (ops:=ops) st0 tr π (List.range ops.size) t ops.size (fun k hk _=>⟨fun _=>by simpa using hk,fun _=>?_⟩)] at h1
    ·rw [ht.get t,hlen]
     have:=(hseq ops.size (Nat.le_refl _)).2.2 t
     rw [this]
     exact h1
    ·exact hall k (by simpa using hk)
   ·rw [ht.h,hend]; exact hH
  | succ m ih =>
   intro p hp c hcs hc I' μ' a' w' hT hsz hdf hH hS hpre
   have hplt:p < π.length:=by rw [O.len]; omega
   have hpi:π[p]? = some π[p]:=List.getElem?_eq_getElem hplt
   rw [List.drop_eq_getElem_cons hplt]
   generalize hi:π[p] = i at hpi
   have hilt:i < ops.size:=O.lt i (List.mem_of_getElem? hpi)
   have ho:ops.toList[i]? = some ops[i]:=by rw [Array.getElem?_toList,Array.getElem?_eq_getElem hilt]
   have hnot:i ∉ π.take p:=by
    intro hm
    obtain ⟨q,hq,hq2⟩:=List.getElem_of_mem hm
    simp only [List.length_take] at hq
    rw [List.getElem_take] at hq2
    have:q = p:=(List.getElem?_inj (by omega) O.nodup).1 (by rw [List.getElem?_eq_getElem (by omega),hq2,hpi])
    omega
   have hsucc:π.take (p + 1) = π.take p ++ [i]:=by rw [List.take_succ_eq_append_getElem hplt,hi]
   have later:∀ k t,i < k → k ∈ π.take p → dstAt ops k = some t → (dstAt ops i = some t ∨ (∀ o,ops.toList[i]? = some o → t ∈ readsOf ops o)) → False:=by
    intro k t hik hk hdk hor
    have hin:=clash_of i k hilt (dst_lt k t hdk) hik t hdk hor
    obtain ⟨q,hq,hq2⟩:=List.getElem_of_mem hk
    simp only [List.length_take] at hq
    rw [List.getElem_take] at hq2
    have h3:=hB q k (by rw [List.getElem?_eq_getElem (by omega),hq2]) i hin
    exact hnot (List.mem_of_mem_take (by
     have:i ∈ (π.take p).take q:=by rw [List.take_take,Nat.min_eq_left (by omega)]; exact h3
     exact this))
   have reads:∀ t,t ∈ readsOf ops ops[i] → GS ops st0 tr (π.take p) ops.size t = (seqSt ops.toList tr i st0).get t:=by
    intro t ht
    have hr:∀ o,ops.toList[i]? = some o → t ∈ readsOf ops o:=fun o h=>by rw [ho] at h; cases h; exact ht
    rw [GS_stay st0 tr (π.take p) t i ops.size (by omega) (fun k h1 h2 h3 h4=>by
     rcases Nat.lt_or_ge i k with h5 | h5
     ·exact later k t h5 h3 h4 (.inr hr)
     ·have:k = i:=by omega
      subst this; exact hnot h3)]
    rw [(hseq i (by omega)).2.2 t]
    refine GS_same st0 tr _ _ t i (fun k hk hdk=>⟨fun _=>by simp; omega,fun _=>?_⟩)
    exact hB p i hpi k (clash_of2 i k hilt (by omega) hk t hdk (.inr hr))
   have behind:∀ t,GS ops st0 tr (π.take (p + 1)) ops.size t = if dstAt ops i = some t ∧ t < st0.n then tr.getD i .undef else GS ops st0 tr (π.take p) ops.size t:=by
    intro t
    by_cases hc:dstAt ops i = some t
    ·rw [GS_stay st0 tr (π.take (p + 1)) t (i + 1) ops.size (by omega) (fun k h1 h2 h3 h4=>by
      rw [hsucc] at h3
      rcases List.mem_append.1 h3 with h5 | h5
      ·exact later k t (by omega) h5 h4 (.inl hc)
      ·simp at h5; omega)]
     simp only [GS]
     by_cases hlt:t < st0.n
     ·rw [if_pos ⟨by rw [hsucc]; simp,hc,hlt⟩,if_pos ⟨hc,hlt⟩]
     ·rw [if_neg (fun h=>hlt h.2.2),if_neg (fun h=>hlt h.2)]
      rw [GS_stay st0 tr (π.take p) t i ops.size (by omega) (fun k h1 h2 h3 h4=>by
       rcases Nat.lt_or_ge i k with h5 | h5
       ·exact later k t h5 h3 h4 (.inl hc)
       ·have:k = i:=by omega
        subst this; exact hnot h3)]
      refine GS_same st0 tr _ _ t i (fun k hk _=>?_)
      rw [hsucc]
      constructor
      ·intro h
       rcases List.mem_append.1 h with h5 | h5
       ·exact h5
       ·simp at h5; omega
      ·intro h; simp [h]
    ·rw [if_neg (fun h=>hc h.1)]
     refine GS_same st0 tr _ _ t ops.size (fun k hk hdk=>?_)
     rw [hsucc]
     constructor
     ·intro h
      rcases List.mem_append.1 h with h5 | h5
      ·exact h5
      ·simp only [List.mem_singleton] at h5; subst h5; exact absurd hdk hc
     ·intro h; simp [h]
   obtain ⟨s,hsn0,hsg,hop⟩:=hAt i _ ho
   have hsn:s.n = st0.n:=by rw [hsn0,(hseq i (by omega)).1]
   have hdst:dstAt ops i = ops[i].dst:=by simp [dstAt,Array.getElem?_eq_getElem hilt]
   have hbefore:∀ m,m ∈ (befores ops.toList []).getD i [] → m ∈ π.take p:=fun m hmm=>hB p i hpi m hmm
   have hnotbef:∀ m,m ∈ π.take p → i ∉ (befores ops.toList []).getD m []:=by
    intro m hmm hin
    obtain ⟨q,hq,hq2⟩:=List.getElem_of_mem hmm
    simp only [List.length_take] at hq
    rw [List.getElem_take] at hq2
    have h3:=hB q m (by rw [List.getElem?_eq_getElem (by omega),hq2]) i hin
    exact hnot (List.mem_of_mem_take (by
     have:i ∈ (π.take p).take q:=by rw [List.take_take,Nat.min_eq_left (by omega)]; exact h3
     exact this))
   have cont:∀ (J:Nat → Prop) (ν:MM) (v:Value) (w2:World) (c2:Nat),c2 ≤ ops.size → (∀ m,mem m = true → (m ∈ π.take (p + 1) ↔ m < c2)) → RelV J w2 ν (tr.getD i .undef) v → RelH J ν (hN c2) w2 → Step I' μ' w' J ν w2 → Pre μ'.length μ' ν → wpOps P ops (Post n I μ w Q) (π.drop (p + 1)) (a'.put ops[i].dst v) w2:=by
    intro J ν v w2 c2 hcs2 hc2 hv hH2 S2 p2
    refine ih (p + 1) (by omega) c2 hcs2 hc2 J ν _ w2 (fun t=>?_) ?_ (by rw [act_put_defers]; exact hdf) hH2 (hS.trans S2) (hpre.trans (p2.mono hpre.1))
    ·rw [behind t,hdst]
     have hold:=((hT t).sub p2.sub).mono S2.mono (S2.keepI hH)
     cases hdd:ops[i].dst with
     | none=>simpa [Act.put,hdd] using hold
     | some k =>
      simp only [Act.put,Option.some.injEq]
      by_cases hkt:k = t
      ·subst hkt
       by_cases hlt:k < st0.n
       ·rw [if_pos ⟨rfl,hlt⟩]
        have hlt':k < a'.tmps.size:=by rw [hsz]; exact hlt
        rw [show (a'.tmps.setIfInBounds k v).getD k Go.undef = v by simp [Array.getD,hlt']]
        exact hv
       ·rw [if_neg (fun h=>hlt h.2)]
        have:(a'.tmps.setIfInBounds k v).getD k Go.undef = a'.tmps.getD k Go.undef:=by
         have hge:¬ k < a'.tmps.size:=by rw [hsz]; exact hlt
         simp [Array.getD,hge]
        rw [this]; exact hold
      ·rw [if_neg (fun h=>hkt h.1)]
       have:(a'.tmps.setIfInBounds k v).getD t Go.undef = a'.tmps.getD t Go.undef:=by
        by_cases hlt:t < a'.tmps.size
        ·simp [Array.getD,hlt]; rw [Array.getElem_setIfInBounds_ne (by simpa using hlt) hkt]
        ·simp [Array.getD,hlt]
       rw [this]; exact hold
    ·cases hdd:ops[i].dst <;> simp [Act.put,hsz]
   have runop:∀ (c1 c2:Nat) (h':List AObj),hN c1 = hN c → c2 ≤ ops.size → (∀ m,mem m = true → (m ∈ π.take (p + 1) ↔ m < c2)) → h' = hN c2 → MO P ops[i] s (hN c1) (tr.getD i .undef) h' → ops[i].wp P a' w' (wpOps P ops (Post n I μ w Q) (π.drop (p + 1))) (Post n I μ w Q):=by
    intro c1 c2 h' hc1 hcs2 hc2 hh' hdo
    subst hh'
    rw [hc1] at hdo
    unfold MO at hdo
    have hrestr:Rel I' μ' (restrictH ops[i] s (hN c)) a' w':=by
     refine ⟨fun t=>?_,by simp only [restrictH]; rw [hsz,hsn],hdf,hH⟩
     have hlook:∀ ts:List Nat,look t (ts.map fun t=>(t,s.get t)) = .undef ∨ (t ∈ ts ∧ look t (ts.map fun t=>(t,s.get t)) = s.get t):=by
      intro ts
      induction ts with
      | nil=>exact .inl rfl
      | cons x xs ihx =>
       simp only [List.map_cons,look]
       by_cases hx:x = t
       ·subst hx; rw [if_pos rfl]; exact .inr ⟨by simp,rfl⟩
       ·rw [if_neg hx]
        rcases ihx with h1 | ⟨h1,h2⟩
        ·exact .inl h1
        ·exact .inr ⟨by simp [h1],h2⟩
     show RelV I' w' μ' (if t < s.n then look t ((tmpsOf ops[i]).map fun t=>(t,s.get t)) else .undef) _
     by_cases htn:t < s.n
     ·rw [if_pos htn]
      rcases hlook (tmpsOf ops[i]) with h1 | ⟨h1,h2⟩
      ·rw [h1]; exact .undef _ _
      ·rw [h2]
       have h3:=reads t (by unfold readsOf; exact List.mem_append.2 (.inl h1))
       have h4:=hsg t
       rw [← h4] at h3
       have:=hT t
       rw [h3] at this
       exact this
     ·rw [if_neg htn]; exact .undef _ _
    refine hdo I' μ' a' w' hrestr (by rw [hH.len]; exact Nat.le_refl _) _ _ (fun J ν st'' v w2 e R2 S2 p2=>?_)
    subst e
    have hH2:RelH J ν (hN c2) w2:=R2.heap
    rw [← hH.len] at p2
    cases hdd:ops[i].dst with
    | none =>
     have:wpOps P ops (Post n I μ w Q) (π.drop (p + 1)) (a'.put ops[i].dst v) w2:=by
      refine ih (p + 1) (by omega) c2 hcs2 hc2 J ν _ w2 (fun t=>?_) ?_ (by rw [act_put_defers]; exact hdf) hH2 (hS.trans S2) (hpre.trans (p2.mono hpre.1))
      ·rw [behind t,hdst,hdd]
       have hold:=((hT t).sub p2.sub).mono S2.mono (S2.keepI hH)
       simpa [Act.put,hdd] using hold
      ·simp [Act.put,hdd,hsz]
     rwa [hdd] at this
    | some k =>
     have hvk:RelV J w2 ν (((restrictH ops[i] s (hN c)).put ops[i].dst (tr.getD i .undef)).get k) _:=R2.tmps k
     rw [put_get,hdd] at hvk
     rw [← hdd]
     by_cases hlt:k < s.n
     ·rw [if_pos ⟨rfl,by simpa [restrictH] using hlt⟩] at hvk
      have hlt':k < a'.tmps.size:=by rw [hsz,← hsn]; exact hlt
      rw [show (a'.put (some k) v).tmps.getD k Go.undef = v by simp [Act.put,Array.getD,hlt']] at hvk
      exact cont J ν v w2 c2 hcs2 hc2 hvk hH2 S2 p2
     ·refine ih (p + 1) (by omega) c2 hcs2 hc2 J ν _ w2 (fun t=>?_) (by simp [Act.put,hdd,hsz]) (by rw [act_put_defers]; exact hdf) hH2 (hS.trans S2) (hpre.trans (p2.mono hpre.1))
      rw [behind t,hdst,hdd]
      have hold:=((hT t).sub p2.sub).mono S2.mono (S2.keepI hH)
      rw [if_neg (fun h=>hlt (by rw [hsn]; rw [Option.some.inj h.1]; exact h.2))]
      simp only [Act.put]
      have:(a'.tmps.setIfInBounds k v).getD t Go.undef = a'.tmps.getD t Go.undef:=by
       have:a'.tmps.setIfInBounds k v = a'.tmps:=by
        apply Array.ext
        ·simp
        ·intro q h1 h2
         rw [Array.getElem_setIfInBounds]
         rw [if_neg (fun e=>hlt (by rw [hsn,← hsz,e]; exact h2))]
       rw [this]
      rw [this]; exact hold
   have hoi:ops[i]? = some ops[i]:=Array.getElem?_eq_getElem hilt
   simp only [wpOps,hoi]
   cases hmi:mem i with
   | true =>
    rw [hmi] at hop
    obtain ⟨hg,hmo⟩:=hop
    rw [if_pos (by simp [Region.wanted,hg])]
    have hci:c ≤ i:=by
     rcases Nat.lt_or_ge i c with h1 | h1
     ·exact absurd ((hc i hmi).2 h1) hnot
     ·exact h1
    have hsame:hN i = hN c:=ht.stay c i hci (by omega) (fun m h1 h2=>by
     cases hmm:mem m with
     | false=>rfl
     | true =>
      have:=(hc m hmm).1 (hbefore m (ht.chain m i h2 hilt hmm hmi))
      omega)
    refine .inl (runop i (i + 1) _ hsame (by omega) (fun m hmm=>?_) rfl hmo)
    rw [hsucc,List.mem_append,List.mem_singleton]
    constructor
    ·rintro (h | rfl)
     ·have:=(hc m hmm).1 h; omega
     ·omega
    ·intro h
     rcases (by omega:m < i ∨ m = i) with h1 | h1
     ·exact .inl (hbefore m (ht.chain m i h1 hilt hmm hmi))
     ·exact .inr h1
   | false =>
    rw [hmi] at hop
    have hc2:∀ m,mem m = true → (m ∈ π.take (p + 1) ↔ m < c):=by
     intro m hmm
     rw [hsucc,List.mem_append,List.mem_singleton,← hc m hmm]
     constructor
     ·rintro (h | rfl)
      ·exact h
      ·rw [hmi] at hmm; cases hmm
     ·exact .inl
    have hallow:∀ (av:AV),(∀ c,c ≤ ops.size → (∀ m,mem m = true → m ∈ (befores ops.toList []).getD i [] → m < c) → (∀ m,mem m = true → m < c → i ∉ (befores ops.toList []).getD m []) → MO P ops[i] s (hN c) av (hN c)) → MO P ops[i] s (hN c) av (hN c) :=
     fun av h=>h c hcs (fun m hmm hin=>(hc m hmm).1 (hbefore m hin)) (fun m hmm hlt=>hnotbef m ((hc m hmm).2 hlt))
    simp only [Bool.false_eq_true,if_false] at hop
    cases hg:ops[i].guard with
    | none =>
     rw [hg] at hop
     simp only at hop
     rw [if_pos (by simp [Region.wanted,hg])]
     exact .inl (runop c c _ rfl hcs hc2 rfl (hallow _ hop))
    | some jw =>
     obtain ⟨j,want⟩:=jw
     rw [hg] at hop
     simp only at hop
     obtain ⟨d,hjd,hor⟩:=hop
     have hread:d ∈ readsOf ops ops[i]:=by
      unfold readsOf
      rw [hg]
      simp only
      rw [hjd]
      simp
     rcases hor with ⟨b,hsd,hor⟩ | ⟨hsd,hav⟩
     ·have hv:=hT d
      rw [reads d hread,← hsg d,hsd] at hv
      have hdn:=get_lt hsd (by simp)
      have hy:yielded ops a'.tmps j = some b:=by
       unfold yielded
       rw [hjd]
       have hlt':d < a'.tmps.size:=by rw [hsz,← hsn]; exact hdn
       have:=hv.lit_eq
       rw [getD_of hlt'] at this
       simp only [Option.bind_some,Array.getElem?_eq_getElem hlt',this]
      rcases hor with ⟨hb,hdo⟩ | ⟨hb,hav⟩
      ·rw [if_pos (by simp [Region.wanted,hg,hy,hb])]
       exact .inl (runop c c _ rfl hcs hc2 rfl (hallow _ hdo))
      ·rw [if_neg (by simp [Region.wanted,hg,hy,hb])]
       exact cont I' μ' Go.undef w' c hcs hc2 (by rw [hav]; exact rel_tup0) hH (Step.refl _ _ _) (Pre.refl _ _ (Nat.le_refl _))
     ·have hv:=hT d
      rw [reads d hread,← hsg d,hsd] at hv
      have hdn:=get_lt hsd (by simp)
      have hy:yielded ops a'.tmps j = none:=by
       unfold yielded
       rw [hjd]
       have hlt':d < a'.tmps.size:=by rw [hsz,← hsn]; exact hdn
       have:=tup0_inv hv
       rw [getD_of hlt'] at this
       simp only [Option.bind_some,Array.getElem?_eq_getElem hlt',this]
      rw [if_neg (by simp [Region.wanted,hg,hy])]
      exact cont I' μ' Go.undef w' c hcs hc2 (by rw [hav]; exact rel_tup0) hH (Step.refl _ _ _) (Pre.refl _ _ (Nat.le_refl _))
 have:=main ops.size 0 (by omega) 0 (by omega) (fun m _=>by simp) I μ a w0 (fun t=>?_) R.size R.defers (by rw [ht.h0]; exact R.heap.heap_eq hw0) ((Step.refl I μ w).heap_eq hw0 ⟨rfl,rfl⟩) (Pre.refl _ _ hn)
 ·rw [List.drop_zero] at this; exact this
 ·have h0:GS ops st0 tr (π.take 0) ops.size t = st0.get t:=by
   rw [GS_stay st0 tr (π.take 0) t 0 ops.size (by omega) (fun k _ _ h=>by simp at h)]
   rfl
  rw [h0]
  exact (R.heap_eq hw0).tmps t
end Go.Q
namespace Go.Q
open Go
def below0 (k:Nat):AV → Bool
 | .ref o _ _=>Nat.blt o k
 | .ptr o _=>Nat.blt o k
 | .eptr o _ _=>Nat.blt o k
 | .undef=>true
 | .agg _=>false
 | .tup _=>false
 | v=>pureQ v
def belowQ (k:Nat):AV → Bool
 | .agg cs=>cs.all (below0 k)
 | .tup cs=>cs.all (below0 k)
 | v=>below0 k v
theorem take_get {μ:MM} {o k:Nat} (h:Nat.blt o k = true):(μ.take k)[o]? = μ[o]?:=by
 rw [List.getElem?_take,if_pos (show o < k from Nat.le_of_ble_eq_true h)]
theorem take_loc {μ:MM} {o k:Nat} (h:Nat.blt o k = true):MM.loc (μ.take k) o = μ.loc o:=by
 unfold MM.loc; rw [take_get h]
theorem below0_rel [_KN:Know] {I:Nat → Prop} {w:World} {μ:MM} {k:Nat} {v:AV} {x:Value} (hb:below0 k v = true) (h:RelV I w μ v x):RelV I w (μ.take k) v x:=by
 cases h with
 | undef=>exact .undef _ _
 | agg=>cases hb
 | tup=>cases hb
 | ref _ o off len cap l hl hlen hcap=>exact .ref _ o off len cap l (by rw [take_loc hb]; exact hl) hlen hcap
 | ref0 _ o hl=>exact .ref0 _ o (by rw [take_get hb]; exact hl)
 | refE _ o off l a hl=>exact .refE _ o off l a (by rw [take_loc hb]; exact hl)
 | refX _ o off len _ hl=>exact .refX _ o off len _ (by rw [take_get hb]; exact hl)
 | ptrX _ o j _ hl=>exact .ptrX _ o j _ (by rw [take_get hb]; exact hl)
 | eptrX _ o i j _ hl=>exact .eptrX _ o i j _ (by rw [take_get hb]; exact hl)
 | ptr _ o j l hl=>exact .ptr _ o j l (by rw [take_loc hb]; exact hl)
 | eptr _ o i j l hl=>exact .eptr _ o i j l (by rw [take_loc hb]; exact hl)
 | lit=>exact .lit _ _
 | nils=>exact .nils _
 | vs _ s es a cap val hcap ha hn hv=>exact .vs _ s es a cap val hcap ha hn hv
 | iptr _ c b off val hbI hc hv=>exact .iptr _ c b off val hbI hc hv
 | fn _ f a b fs cs hf hc h1 h2=>exact pureQ_ok (show pureQ (.fn f a b) = true from hb) (.fn _ f a b fs cs hf hc h1 h2) _
theorem belowQ_rel [_KN:Know] {I:Nat → Prop} {w:World} {μ:MM} {k:Nat} {v:AV} {x:Value} (hb:belowQ k v = true) (h:RelV I w μ v x):RelV I w (μ.take k) v x:=by
 cases h with
 | agg _ cs xs hn hc=>exact .agg _ cs xs hn (fun i hi=>below0_rel (List.all_eq_true.1 hb _ (List.getElem_mem hi)) (hc i hi))
 | tup _ cs xs hn hc=>exact .tup _ cs xs hn (fun i hi=>below0_rel (List.all_eq_true.1 hb _ (List.getElem_mem hi)) (hc i hi))
 | undef=>exact .undef _ _
 | ref _ o off len cap l hl hlen hcap=>exact below0_rel hb (.ref _ o off len cap l hl hlen hcap)
 | ref0 _ o hl=>exact below0_rel hb (.ref0 _ o hl)
 | refE _ o off l a hl=>exact below0_rel hb (.refE _ o off l a hl)
 | refX _ o off len _ hl=>exact below0_rel hb (.refX _ o off len _ hl)
 | ptrX _ o j _ hl=>exact below0_rel hb (.ptrX _ o j _ hl)
 | eptrX _ o i j _ hl=>exact below0_rel hb (.eptrX _ o i j _ hl)
 | ptr _ o j l hl=>exact below0_rel hb (.ptr _ o j l hl)
 | eptr _ o i j l hl=>exact below0_rel hb (.eptr _ o i j l hl)
 | lit=>exact .lit _ _
 | nils=>exact .nils _
 | vs _ s es a cap val hcap ha hn hv=>exact .vs _ s es a cap val hcap ha hn hv
 | iptr _ c b off val hbI hc hv=>exact .iptr _ c b off val hbI hc hv
 | fn _ f a b fs cs hf hc h1 h2=>exact below0_rel hb (.fn _ f a b fs cs hf hc h1 h2)
def belowH (k:Nat) (h:List AObj):Bool:=h.all fun ob=>match ob with | .box cs=>cs.all (belowQ k) | _=>true
theorem take_sub (μ:MM) (k:Nat):MM.Sub (μ.take k) μ:=fun o x h=>by
 rw [List.getElem?_take] at h
 split at h
 ·exact .inl h
 ·cases h
theorem relO_take [KN:Know] {I:Nat → Prop} {w:World} {μ:MM} {k:Nat} {ob:AObj} {x:Slot} (hb:(match ob with | .box cs=>cs.all (belowQ k) | _=>true) = true) (h:RelO I w μ ob x):RelO I w (μ.take k) ob x:=by
 cases h with
 | dead=>exact .dead
 | arr0 s=>exact .arr0 s
 | arr s es l val hs hbk hsz hn hc hv=>exact .arr s es l val hs hbk hsz hn hc hv
 | box cs l val hbk hsz hc hv=>exact .box cs l val hbk hsz hc (fun j hj=>belowQ_rel (List.all_eq_true.1 hb _ (List.getElem_mem hj)) (hv j hj))
theorem MO.frame [KN:Know] {P:Program} {o:Oper} {s:St} {h e:List AObj} {av:AV} (hM:MO P o s h av h) (hb:((tmpsOf o).all fun t=>belowQ h.length (s.get t)) = true) (hh:belowH h.length h = true):MO P o s (h ++ e) av (h ++ e):=by
 intro I μ a w R hn next Q hk
 have hlen:μ.length = h.length + e.length:=by rw [R.heap.len]; simp [restrictH]
 have hH:RelH I (μ.take h.length) h w:=by
  refine ⟨by rw [List.length_take,hlen]; omega,fun o ob x h1 h2=>?_,fun b hb=>?_,fun o o' l l' h1 h2 h3=>?_,R.heap.imm,R.heap.know⟩
  ·have ho:o < h.length:=by
    rcases Nat.lt_or_ge o h.length with h4 | h4
    ·exact h4
    ·rw [List.getElem?_eq_none h4] at h1; cases h1
   rw [List.getElem?_take,if_pos ho] at h2
   have h3:=R.heap.objs o ob x (by simp only [restrictH]; rw [List.getElem?_append_left ho]; exact h1) h2
   exact relO_take (List.all_eq_true.1 hh _ (List.mem_of_getElem? h1)) h3
  ·obtain ⟨o,l,hl,rfl⟩:=hb
   have:=MM.loc_some.1 hl
   rw [List.getElem?_take] at this
   split at this
   ·exact R.heap.notI _ ⟨o,l,MM.loc_some.2 this,rfl⟩
   ·cases this
  ·have g1:=MM.loc_some.1 h1
   have g2:=MM.loc_some.1 h2
   rw [List.getElem?_take] at g1 g2
   split at g1
   ·split at g2
    ·exact R.heap.apart o o' l l' (MM.loc_some.2 g1) (MM.loc_some.2 g2) h3
    ·cases g2
   ·cases g1
 have R0:Rel I (μ.take h.length) (restrictH o s h) a w:=by
  refine ⟨fun t=>?_,R.size,R.defers,hH⟩
  have ht:=R.tmps t
  show RelV I w (μ.take h.length) (if t < s.n then look t ((tmpsOf o).map fun t=>(t,s.get t)) else .undef) _
  have ht':RelV I w μ (if t < s.n then look t ((tmpsOf o).map fun t=>(t,s.get t)) else .undef) (a.tmps.getD t Go.undef):=ht
  split
  ·rename_i h0
   rw [if_pos h0] at ht'
   have hlook:∀ ts:List Nat,(ts.all fun t=>belowQ h.length (s.get t)) = true → belowQ h.length (look t (ts.map fun t=>(t,s.get t))) = true:=by
    intro ts
    induction ts with
    | nil=>intro _; rfl
    | cons x xs ih =>
     intro hx
     simp only [List.all_cons,Bool.and_eq_true] at hx
     simp only [List.map_cons,look]
     split
     ·exact hx.1
     ·exact ih hx.2
   exact belowQ_rel (hlook _ hb) ht'
  ·exact .undef _ _
 refine hM I (μ.take h.length) a w R0 (by rw [hH.len]; exact Nat.le_refl _) next Q (fun I' ν st' v w' e1 R1 S1 p1=>?_)
 subst e1
 have hH1:RelH I' ν h w':=R1.heap
 obtain rfl:ν = μ.take h.length:=mu_same hH hH1 p1
 have keepB:∀ b,μ.owns b → ¬ MM.owns (μ.take h.length) b → w'.heap[b]? = w.heap[b]?:=fun b hb hnb=>S1.same b (R.heap.size_owned hb) hnb
 have hH2:RelH I' μ (h ++ e) w':=by
  refine ⟨R.heap.len,fun o ob x h1 h2=>?_,fun b hb hI=>?_,R.heap.apart,hH1.imm,hH1.know⟩
  ·rcases Nat.lt_or_ge o h.length with ho | ho
   ·rw [List.getElem?_append_left ho] at h1
    have h3:=hH1.objs o ob x h1 (by rw [List.getElem?_take,if_pos ho]; exact h2)
    exact h3.mono (fun _ h=>h) (fun _ _=>rfl) (fun _ _ h=>h.sub (take_sub μ _)) (fun _ _=>rfl)
   ·have h3:=R.heap.objs o ob x h1 h2
    refine h3.mono S1.mono (fun b hb=>S1.keepI hH b hb) (fun _ _ h=>h) (fun l hl=>?_)
    subst hl
    refine keepB _ ⟨o,l,MM.loc_some.2 h2,rfl⟩ (fun ⟨o',l',h4,h5⟩=>?_)
    have g:=MM.loc_some.1 h4
    rw [List.getElem?_take] at g
    split at g
    ·have:=R.heap.apart o' o l' l (MM.loc_some.2 g) (MM.loc_some.2 h2) h5
     omega
    ·cases g
  ·rcases S1.imm b hI with h1 | h1 | h1
   ·exact R.heap.notI b hb h1
   ·exact hH1.notI b h1 hI
   ·have:=R.heap.size_owned hb; omega
 have hsub:=take_sub μ h.length
 have getH:∀ t,({ (restrictH o s (h ++ e)).put o.dst av with h:=h ++ e }:St).get t = ({ (restrictH o s h).put o.dst av with h:=h }:St).get t:=fun t=>by cases o.dst <;> rfl
 refine hk I' μ _ v w' rfl ⟨fun t=>by rw [getH t]; exact (R1.tmps t).sub hsub,(by have:=R1.size; revert this; cases o.dst <;> exact id),R1.defers,hH2⟩ ⟨S1.mono,S1.grow,fun b hb hno=>S1.same b hb (fun ho=>hno ?_),fun b hb=>.inl hb,fun b hb=>?_,S1.ext⟩ (Pre.refl _ _ hn)
 ·obtain ⟨o,l,hl,rfl⟩:=ho
  have g:=MM.loc_some.1 hl
  rw [List.getElem?_take] at g
  split at g
  ·exact ⟨o,l,MM.loc_some.2 g,rfl⟩
  ·cases g
 ·rcases S1.imm b hb with h1 | h1 | h1
  ·exact .inl h1
  ·obtain ⟨o,l,hl,rfl⟩:=h1
   have g:=MM.loc_some.1 hl
   rw [List.getElem?_take] at g
   split at g
   ·exact .inr (.inl ⟨o,l,MM.loc_some.2 g,rfl⟩)
   ·cases g
  ·exact .inr (.inr h1)
end Go.Q
namespace Go.Q
open Go
def addQ (o:Oper):Bool:=match o.op with
 | .alloc _=>true
 | .box _ _=>true
 | .buildSlice _ _ _=>true
 | .makeSlice _ _ _=>true
 | _=>false
def insQ (o:Oper):Bool:=match o.op with
 | .move _=>true
 | .assign _=>true
 | .slice ..=>true
 | _=>false
def mOk (ops:Array Oper) (ms cs:List Nat):Bool :=
 (ms.all fun a=>ms.all fun b=>!(decide (a < b)) || ((befores ops.toList []).getD b []).contains a) &&
 ops.toList.zipIdx.all fun (o,i)=>ms.contains i || (decide (cs.getD i 0 ≤ i) && (insQ o || ((cs.getD i 0 == 0 || (ms.contains (cs.getD i 0 - 1) && ((befores ops.toList []).getD i []).contains (cs.getD i 0 - 1))) &&
  ms.all fun m=>!(decide (cs.getD i 0 ≤ m)) || ((befores ops.toList []).getD m []).contains i || (match ops[m]? with | some p=>addQ p | none=>false))))
def GoodH [KN:Know] (P:Program) (o:Oper) (s:St) (hm:List AObj) (av:AV):Prop :=
 (insQ o = true → ∀ h,MO P o s h av h) ∧ (insQ o = false → MO P o s hm av hm ∧ ((tmpsOf o).all fun t=>belowQ hm.length (s.get t)) = true ∧ belowH hm.length hm = true)
structure DNodeH [KN:Know] (P:Program) (o:Oper) (st:St) (hm:List AObj) (K:AV → Prop):Prop where
 ex:∃ av,(insQ o = true → ∀ h,dstep P h.length o (fun st''=>st'' = { (restrictH o st h).put o.dst av with h:=h }) (restrictH o st h)) ∧
  (insQ o = false → dstep P hm.length o (fun st''=>st'' = { (restrictH o st hm).put o.dst av with h:=hm }) (restrictH o st hm) ∧ ((tmpsOf o).all fun t=>belowQ hm.length (st.get t)) = true ∧ belowH hm.length hm = true) ∧ K av
structure MNodeB [KN:Know] (P:Program) (o:Oper) (st:St) (K:AV → List AObj → Prop):Prop where
 ex:∃ av h',dstep P st.h.length o (fun st''=>st'' = { (restrictH o st st.h).put o.dst av with h:=h' }) (restrictH o st st.h) ∧ (addQ o = true → ∃ e,h' = st.h ++ e) ∧ K av h'
theorem DNodeH.of [KN:Know] {P:Program} {o:Oper} {st:St} {hm:List AObj} {K:AV → Prop} (av:AV) (hq:insQ o = false) (h1:dstep P hm.length o (fun st''=>st'' = { (restrictH o st hm).put o.dst av with h:=hm }) (restrictH o st hm)) (h2:((tmpsOf o).all fun t=>belowQ hm.length (st.get t)) = true) (h3:belowH hm.length hm = true) (h4:K av):DNodeH P o st hm K:=⟨av,fun h=>by (rw [hq] at h; cases h),fun _=>⟨h1,h2,h3⟩,h4⟩
theorem DNodeH.mv [KN:Know] {P:Program} {o:Oper} {st:St} {hm:List AObj} {K:AV → Prop} (av:AV) (hq:insQ o = true) (h1:∀ h,dstep P h.length o (fun st''=>st'' = { (restrictH o st h).put o.dst av with h:=h }) (restrictH o st h)) (h4:K av):DNodeH P o st hm K:=⟨av,fun _=>h1,fun h=>by (rw [hq] at h; cases h),h4⟩
theorem MNodeB.of [KN:Know] {P:Program} {o:Oper} {st:St} {K:AV → List AObj → Prop} (av:AV) (h':List AObj) (h1:dstep P st.h.length o (fun st''=>st'' = { (restrictH o st st.h).put o.dst av with h:=h' }) (restrictH o st st.h)) (h2:addQ o = true → ∃ e,h' = st.h ++ e) (h3:K av h'):MNodeB P o st K:=⟨av,h',h1,h2,h3⟩
def lk (c:Nat):List (Nat × List AObj) → Option (List AObj)
 | []=>none
 | (k,h) :: r=>match Nat.beq k c with | true=>some h | false=>lk c r
def mdwp [KN:Know] (P:Program) (ops:Array Oper) (ms cs:List Nat):List Oper → Nat → List (Nat × List AObj) → (St → Prop) → St → Prop
 | [],_,_,N,st=>N st
 | o :: r,i,A,N,st=>match ms.contains i with
  | true=>(match o.guard with
   | none=>MNodeB P o st (fun av h'=>match st with | ⟨n,ts,_⟩=>(⟨n,ts,h'⟩:St).putK o.dst av (mdwp P ops ms cs r (i + 1) ((i + 1,h') :: A) N))
   | some _=>False)
  | false=>match lk (cs.getD i 0) A with
   | none=>False
   | some hm=>(match o.guard with
    | none=>DNodeH P o st hm (fun av=>st.putK o.dst av (mdwp P ops ms cs r (i + 1) A N))
    | some (j,want)=>match (ops[j]?).bind (·.dst) with
     | some d=>match st.get d with
      | .lit (.bool b)=>ifB b
        (st.putK (some d) (.lit (.bool true)) fun st=>match want with | true=>DNodeH P o st hm (fun av=>st.putK o.dst av (mdwp P ops ms cs r (i + 1) A N)) | false=>st.putK o.dst (.tup []) (mdwp P ops ms cs r (i + 1) A N))
        (st.putK (some d) (.lit (.bool false)) fun st=>match want with | false=>DNodeH P o st hm (fun av=>st.putK o.dst av (mdwp P ops ms cs r (i + 1) A N)) | true=>st.putK o.dst (.tup []) (mdwp P ops ms cs r (i + 1) A N))
      | .tup []=>st.putK o.dst (.tup []) (mdwp P ops ms cs r (i + 1) A N)
      | _=>False
     | none=>False)
def OpMin [KN:Know] (P:Program) (ops:Array Oper) (ms cs:List Nat) (i:Nat) (hs:List (List AObj)) (o:Oper) (st:St) (av:AV) (h':List AObj):Prop :=
 ∃ s:St,s.n = st.n ∧ (∀ d,s.get d = st.get d) ∧
  if ms.contains i = true then o.guard = none ∧ MO P o s st.h av h' ∧ (addQ o = true → ∃ e,h' = st.h ++ e)
  else h' = st.h ∧ match o.guard with
   | none=>GoodH P o s (hs.getD (cs.getD i 0) []) av
   | some (j,want)=>∃ d,(ops[j]?).bind (·.dst) = some d ∧ ((∃ b,s.get d = .lit (.bool b) ∧ ((b = want ∧ GoodH P o s (hs.getD (cs.getD i 0) []) av) ∨ (b ≠ want ∧ av = .tup []))) ∨ (s.get d = .tup [] ∧ av = .tup []))
def TraceMin [KN:Know] (P:Program) (ops:Array Oper) (ms cs:List Nat):List Oper → Nat → List (List AObj) → St → List AV → List (List AObj) → St → Prop
 | [],_,hs,st,tr,HL,sF=>tr = [] ∧ HL = hs ∧ SameSt st sF
 | o :: r,i,hs,st,tr,HL,sF=>∃ av tr' h',tr = av :: tr' ∧ OpMin P ops ms cs i hs o st av h' ∧ TraceMin P ops ms cs r (i + 1) (hs ++ [h']) ((⟨st.n,st.ts,h'⟩:St).put o.dst av) tr' HL sF
theorem TraceMin.cong [KN:Know] {P:Program} {ops:Array Oper} {ms cs:List Nat}:∀ {l:List Oper} {i:Nat} {hs:List (List AObj)} {st st1:St} {tr:List AV} {HL:List (List AObj)} {sF:St},SameSt st st1 → TraceMin P ops ms cs l i hs st tr HL sF → TraceMin P ops ms cs l i hs st1 tr HL sF
 | [],_,_,_,_,_,_,_,hs,h=>⟨h.1,h.2.1,⟨fun d=>(hs.get d).symm.trans (h.2.2.get d),hs.n.symm.trans h.2.2.n,hs.h.symm.trans h.2.2.h⟩⟩
 | o :: r,i,hs,st,st1,tr,HL,sF,hS,⟨av,tr',h',e,⟨s,h1,h2,h3⟩,h4⟩=>by
  refine ⟨av,tr',h',e,⟨s,h1.trans hS.n,fun d=>(h2 d).trans (hS.get d),by rw [← hS.h]; exact h3⟩,TraceMin.cong ?_ h4⟩
  exact SameSt.put (s:=⟨st.n,st.ts,h'⟩) (t:=⟨st1.n,st1.ts,h'⟩) ⟨fun d=>hS.get d,hS.n,rfl⟩ _ _
theorem mdwp_ok [KN:Know] {P:Program} {ops:Array Oper} {ms cs:List Nat} {N:St → Prop}:∀ {l:List Oper} {i:Nat} {A:List (Nat × List AObj)} {hs:List (List AObj)} {st:St},hs.length = i + 1 → (∀ c h,lk c A = some h → c ≤ i ∧ hs.getD c [] = h) → mdwp P ops ms cs l i A N st → ∃ tr HL sF,TraceMin P ops ms cs l i hs st tr HL sF ∧ N sF:=by
 intro l
 induction l with
 | nil=>intro i A hs st _ _ h; exact ⟨[],hs,st,⟨rfl,rfl,⟨fun _=>rfl,rfl,rfl⟩⟩,h⟩
 | cons o r ih =>
  intro i A hs st hl hA h
  have hA2:∀ x:List AObj,∀ c h,lk c A = some h → c ≤ i + 1 ∧ (hs ++ [x]).getD c [] = h:=fun x c h e=>by
   obtain ⟨h1,h2⟩:=hA c h e
   refine ⟨by omega,?_⟩
   simp only [List.getD] at h2 ⊢
   rw [List.getElem?_append_left (by omega)]
   exact h2
  have hl2:∀ x:List AObj,(hs ++ [x]).length = i + 1 + 1:=fun x=>by simp [hl]
  have node:∀ hm,lk (cs.getD i 0) A = some hm → ∀ st1,SameSt st1 st → DNodeH P o st1 hm (fun av=>st1.putK o.dst av (mdwp P ops ms cs r (i + 1) A N)) → ∃ av tr HL sF,GoodH P o st1 (hs.getD (cs.getD i 0) []) av ∧ TraceMin P ops ms cs r (i + 1) (hs ++ [st.h]) ((⟨st.n,st.ts,st.h⟩:St).put o.dst av) tr HL sF ∧ N sF:=by
   intro hm hk st1 hS ⟨av,h1,h2,h4⟩
   rw [St.putK_eq] at h4
   rw [(hA _ _ hk).2]
   obtain ⟨tr,HL,sF,h5,h6⟩:=ih (hl2 st.h) (hA2 st.h) h4
   exact ⟨av,tr,HL,sF,⟨fun hq h=>dstep_ok (h1 hq h),fun hq=>⟨dstep_ok (h2 hq).1,(h2 hq).2⟩⟩,TraceMin.cong (hS.put o.dst av) h5,h6⟩
  simp only [mdwp] at h
  cases hmi:ms.contains i with
  | true =>
   rw [hmi] at h
   simp only at h
   cases hg:o.guard with
   | some x=>rw [hg] at h; exact h.elim
   | none =>
    rw [hg] at h
    simp only at h
    obtain ⟨av,h',h1,h2,h3⟩:=h
    rw [St.putK_eq] at h3
    obtain ⟨tr,HL,sF,h4,h5⟩:=ih (hl2 h') (fun c h e=>by
     unfold lk at e
     split at e
     ·rename_i hb
      cases e
      have hc:i + 1 = c:=Nat.eq_of_beq_eq_true hb
      subst hc
      refine ⟨Nat.le_refl _,?_⟩
      simp only [List.getD]
      rw [List.getElem?_append_right (by omega),hl]; simp
     ·exact hA2 h' c h e) h3
    exact ⟨av :: tr,HL,sF,⟨av,tr,h',rfl,⟨st,rfl,fun _=>rfl,by rw [if_pos hmi]; exact ⟨hg,dstep_ok h1,h2⟩⟩,h4⟩,h5⟩
  | false =>
   rw [hmi] at h
   simp only at h
   have hne:¬ ms.contains i = true:=by rw [hmi]; simp
   cases hk:lk (cs.getD i 0) A with
   | none=>rw [hk] at h; exact h.elim
   | some hm =>
   rw [hk] at h
   simp only at h
   cases hg:o.guard with
   | none =>
    rw [hg] at h
    simp only at h
    obtain ⟨av,tr,HL,sF,h1,h2,h3⟩:=node hm hk st ⟨fun _=>rfl,rfl,rfl⟩ h
    exact ⟨av :: tr,HL,sF,⟨av,tr,st.h,rfl,⟨st,rfl,fun _=>rfl,by rw [if_neg hne,hg]; exact ⟨rfl,h1⟩⟩,h2⟩,h3⟩
   | some jw =>
    obtain ⟨j,want⟩:=jw
    rw [hg] at h
    simp only at h
    cases hd:(ops[j]?).bind (·.dst) with
    | none=>rw [hd] at h; exact h.elim
    | some d =>
     rw [hd] at h
     simp only at h
     split at h
     ·rename_i b hb
      have hs':SameSt (st.put (some d) (.lit (.bool b))) st:=(SameSt.reput ⟨fun _=>rfl,rfl,rfl⟩ hb)
      have hb':(st.put (some d) (.lit (.bool b))).get d = .lit (.bool b):=by
       rw [put_get]
       have:=get_lt hb (by simp)
       rw [if_pos ⟨rfl,this⟩]
      obtain ⟨hT,hF⟩:=ifB_elim h
      have run:DNodeH P o (st.put (some d) (.lit (.bool b))) hm (fun av=>(st.put (some d) (.lit (.bool b))).putK o.dst av (mdwp P ops ms cs r (i + 1) A N)) → b = want → ∃ tr HL sF,TraceMin P ops ms cs (o :: r) i hs st tr HL sF ∧ N sF:=by
       intro h hw
       obtain ⟨av,tr,HL,sF,h1,h2,h3⟩:=node hm hk _ hs' h
       exact ⟨av :: tr,HL,sF,⟨av,tr,st.h,rfl,⟨_,hs'.n,hs'.get,by rw [if_neg hne,hg]; exact ⟨rfl,d,hd,.inl ⟨b,hb',.inl ⟨hw,h1⟩⟩⟩⟩,h2⟩,h3⟩
      have skip:mdwp P ops ms cs r (i + 1) A N ((st.put (some d) (.lit (.bool b))).put o.dst (.tup [])) → b ≠ want → ∃ tr HL sF,TraceMin P ops ms cs (o :: r) i hs st tr HL sF ∧ N sF:=by
       intro h hw
       obtain ⟨tr,HL,sF,h3,h4⟩:=ih (hl2 st.h) (hA2 st.h) h
       exact ⟨.tup [] :: tr,HL,sF,⟨.tup [],tr,st.h,rfl,⟨_,hs'.n,hs'.get,by rw [if_neg hne,hg]; exact ⟨rfl,d,hd,.inl ⟨b,hb',.inr ⟨hw,rfl⟩⟩⟩⟩,TraceMin.cong (hs'.put o.dst (.tup [])) h3⟩,h4⟩
      cases b with
      | true =>
       have h:=hT rfl
       rw [St.putK_eq] at h
       cases want with
       | true=>exact run h rfl
       | false=>rw [St.putK_eq] at h; exact skip h (by simp)
      | false =>
       have h:=hF rfl
       rw [St.putK_eq] at h
       cases want with
       | false=>exact run h rfl
       | true=>rw [St.putK_eq] at h; exact skip h (by simp)
     ·rename_i hb
      rw [St.putK_eq] at h
      obtain ⟨tr,HL,sF,h3,h4⟩:=ih (hl2 st.h) (hA2 st.h) h
      exact ⟨.tup [] :: tr,HL,sF,⟨.tup [],tr,st.h,rfl,⟨st,rfl,fun _=>rfl,by rw [if_neg hne,hg]; exact ⟨rfl,d,hd,.inr ⟨hb,rfl⟩⟩⟩,h3⟩,h4⟩
     ·exact h.elim
theorem seq_zero (l:List Oper) (tr:List AV) (st:St):seqSt l tr 0 st = st:=by cases l <;> cases tr <;> rfl
theorem traceMin_at [KN:Know] {P:Program} {ops:Array Oper} {ms cs:List Nat}:∀ {l:List Oper} {k:Nat} {hs:List (List AObj)} {st:St} {tr:List AV} {HL:List (List AObj)} {sF:St},TraceMin P ops ms cs l k hs st tr HL sF → ∀ stB:St,stB.n = st.n → (∀ d,stB.get d = st.get d) → hs.length = k + 1 → hs.getD k [] = st.h →
  (∀ i,i < l.length → ms.contains (k + i) = false → cs.getD (k + i) 0 ≤ k + i) →
  ((∀ d,sF.get d = (seqSt l tr l.length stB).get d) ∧ sF.n = stB.n ∧ sF.h = HL.getD (k + l.length) [] ∧ (∀ i,i ≤ k → HL.getD i [] = hs.getD i [])) ∧
  ∀ i o,l[i]? = some o → seqSt l tr (i + 1) stB = (seqSt l tr i stB).put o.dst (tr.getD i .undef) ∧
   ∃ s:St,s.n = (seqSt l tr i stB).n ∧ (∀ d,s.get d = (seqSt l tr i stB).get d) ∧
    if ms.contains (k + i) = true then o.guard = none ∧ MO P o s (HL.getD (k + i) []) (tr.getD i .undef) (HL.getD (k + i + 1) []) ∧ (addQ o = true → ∃ e,HL.getD (k + i + 1) [] = HL.getD (k + i) [] ++ e)
    else HL.getD (k + i + 1) [] = HL.getD (k + i) [] ∧ match o.guard with
     | none=>GoodH P o s (HL.getD (cs.getD (k + i) 0) []) (tr.getD i .undef)
     | some (j,want)=>∃ d,(ops[j]?).bind (·.dst) = some d ∧ ((∃ b,s.get d = .lit (.bool b) ∧ ((b = want ∧ GoodH P o s (HL.getD (cs.getD (k + i) 0) []) (tr.getD i .undef)) ∨ (b ≠ want ∧ tr.getD i .undef = .tup []))) ∨ (s.get d = .tup [] ∧ tr.getD i .undef = .tup []))
 | [],k,hs,st,tr,HL,sF,⟨h1,h2,h3⟩,stB,hn,hg,hl,hh,_=>by
  subst h1 h2
  refine ⟨⟨fun d=>?_,h3.n.symm.trans hn.symm,h3.h.symm.trans hh.symm,fun _ _=>rfl⟩,fun i o hi=>by simp at hi⟩
  rw [show seqSt [] [] ([]:List Oper).length stB = stB from rfl,hg]; exact (h3.get d).symm
 | o :: r,k,hs,st,tr,HL,sF,⟨av,tr',h',e,⟨s,s1,s2,s3⟩,h4⟩,stB,hn,hg,hl,hh,hcs=>by
  subst e
  have hgetD:∀ i,i ≤ k → (hs ++ [h']).getD i [] = hs.getD i []:=fun i hi=>by
   simp only [List.getD]
   rw [List.getElem?_append_left (by omega)]
  have hlast:(hs ++ [h']).getD (k + 1) [] = h':=by
   simp only [List.getD]
   rw [List.getElem?_append_right (by omega),hl]; simp
  obtain ⟨⟨a1,a2,a3,a4⟩,a5⟩:=traceMin_at h4 (stB.put o.dst av) (by rw [put_n,put_n]; exact hn) (fun d=>by rw [put_get,put_get,hn,hg d]; rfl) (by simp [hl]) (by rw [hlast,put_h]) (fun i hi hm=>by
   have:=hcs (i + 1) (by simp; omega) (by rw [show k + (i + 1) = k + 1 + i by omega]; exact hm)
   rw [show k + (i + 1) = k + 1 + i by omega] at this; exact this)
  refine ⟨⟨?_,by rw [a2,put_n],by rw [a3,List.length_cons]; congr 1; omega,fun i hi=>by rw [a4 i (by omega),hgetD i hi]⟩,fun i p hi=>?_⟩
  ·intro d; exact a1 d
  ·cases i with
   | zero =>
    simp only [List.getElem?_cons_zero,Option.some.injEq] at hi
    subst hi
    have e0:HL.getD k [] = st.h:=by rw [a4 k (by omega),hgetD k (Nat.le_refl _)]; exact hh
    have e1:HL.getD (k + 1) [] = h':=by rw [a4 (k + 1) (Nat.le_refl _),hlast]
    refine ⟨by rw [seq_zero]; show seqSt r tr' 0 (stB.put o.dst av) = _; rw [seq_zero]; rfl,s,by rw [seq_zero,s1,hn],fun d=>by rw [seq_zero,s2 d,hg d],?_⟩
    rw [Nat.add_zero,e0,e1]
    by_cases hmi:ms.contains k = true
    ·rw [if_pos hmi] at s3 ⊢
     exact s3
    ·rw [if_neg hmi] at s3 ⊢
     have hc:=hcs 0 (by simp) (by simpa using hmi)
     rw [Nat.add_zero] at hc
     have e2:HL.getD (cs.getD k 0) [] = hs.getD (cs.getD k 0) []:=by rw [a4 _ (by omega),hgetD _ hc]
     rw [e2]
     exact s3
   | succ i =>
    simp only [List.getElem?_cons_succ] at hi
    obtain ⟨b1,b2⟩:=a5 i p hi
    refine ⟨b1,?_⟩
    rw [show k + (i + 1) = k + 1 + i by omega]
    exact b2
theorem DrawB.ofM [KN:Know] {P:Program} {n id:Nat} {ops:Array Oper} {Q:Exit → St → Prop} {st:St} (ms cs:List Nat) (hm:P.follows .mixedOrders = true) (hd:drawOk ops = true) (hk:mOk ops ms cs = true) (h:mdwp P ops ms cs ops.toList 0 [(0,st.h)] (Q .normal) st):DrawB P n id ops Q st:=by
 obtain ⟨tr,HL,sF,hT,hQ⟩:=mdwp_ok (i:=0) (hs:=[st.h]) rfl (fun c h e=>by
  unfold lk at e
  split at e
  ·rename_i hb
   cases e
   have hc:0 = c:=Nat.eq_of_beq_eq_true hb
   subst hc
   exact ⟨Nat.le_refl _,rfl⟩
  ·cases e) h
 simp only [mOk,Bool.and_eq_true,List.all_eq_true] at hk
 obtain ⟨k1,k2⟩:=hk
 have key:∀ i,(hi:i < ops.size) → ms.contains i = false → cs.getD i 0 ≤ i ∧ (insQ ops[i] = false → (cs.getD i 0 = 0 ∨ (ms.contains (cs.getD i 0 - 1) = true ∧ (cs.getD i 0 - 1) ∈ (befores ops.toList []).getD i [])) ∧
   ∀ m,ms.contains m = true → cs.getD i 0 ≤ m → i ∈ (befores ops.toList []).getD m [] ∨ ∃ p,ops[m]? = some p ∧ addQ p = true):=by
  intro i hi hmi
  have h1:=k2 (ops[i],i) (by rw [List.mem_zipIdx_iff_getElem?]; simp [hi])
  simp only [hmi,Bool.false_or,Bool.and_eq_true,decide_eq_true_eq,Bool.or_eq_true,beq_iff_eq,List.all_eq_true,Bool.not_eq_true',decide_eq_false_iff_not,List.contains_iff_mem] at h1
  obtain ⟨h2,h34⟩:=h1
  refine ⟨h2,fun hq=>?_⟩
  obtain ⟨h3,h4⟩:=h34.resolve_left (by rw [hq]; simp)
  refine ⟨h3.imp (fun h=>h) (fun ⟨x,y⟩=>⟨List.contains_iff_mem.2 x,y⟩),fun m hm hcm=>?_⟩
  rcases h4 m (List.contains_iff_mem.1 hm) with (h5 | h5) | h5
  ·exact absurd hcm h5
  ·exact .inl h5
  ·right
   split at h5
   ·rename_i p hp; exact ⟨p,hp,h5⟩
   ·cases h5
 obtain ⟨⟨a1,a2,a3,a4⟩,a5⟩:=traceMin_at hT st rfl (fun _=>rfl) rfl rfl (fun i hi hmi=>by rw [Nat.zero_add] at hmi ⊢; exact (key i (by simpa using hi) hmi).1)
 simp only [Nat.zero_add] at a3 a5
 have hop:∀ i,i < ops.size → ops.toList[i]? = some ops[i]!:=fun i hi=>by
  rw [Array.getElem?_toList,Array.getElem?_eq_getElem hi,getElem!_pos ops i hi]
 have stay1:∀ m,m < ops.size → ms.contains m = false → HL.getD (m + 1) [] = HL.getD m []:=by
  intro m hmlt hmm
  obtain ⟨_,s,_,_,h3⟩:=a5 m _ (hop m hmlt)
  rw [if_neg (by rw [hmm]; simp)] at h3
  exact h3.1
 have grow:∀ i,(hi:i < ops.size) → ms.contains i = false → insQ ops[i] = false → ∀ c,cs.getD i 0 ≤ c → c ≤ ops.size → (∀ m,ms.contains m = true → m < c → i ∉ (befores ops.toList []).getD m []) → ∃ e,HL.getD c [] = HL.getD (cs.getD i 0) [] ++ e:=by
  intro i hi hmi hq c
  induction c with
  | zero=>intro h1 _ _; exact ⟨[],by rw [show cs.getD i 0 = 0 by omega]; simp⟩
  | succ c ih =>
   intro h1 h2 h3
   by_cases he:cs.getD i 0 = c + 1
   ·exact ⟨[],by rw [he]; simp⟩
   ·obtain ⟨e,he2⟩:=ih (by omega) (by omega) (fun m h4 h5=>h3 m h4 (by omega))
    cases hmc:ms.contains c with
    | false=>exact ⟨e,by rw [stay1 c (by omega) hmc,he2]⟩
    | true =>
     rcases ((key i hi hmi).2 hq).2 c hmc (by omega) with h4 | ⟨p,hp,hadd⟩
     ·exact absurd h4 (h3 c hmc (by omega))
     ·obtain ⟨_,s,_,_,h6⟩:=a5 c p (by rw [Array.getElem?_toList]; exact hp)
      rw [if_pos hmc] at h6
      obtain ⟨e',he'⟩:=h6.2.2 hadd
      exact ⟨e ++ e',by rw [he',he2,List.append_assoc]⟩
 have good:∀ i,(hi:i < ops.size) → ms.contains i = false → ∀ (o:Oper),o = ops[i] → ∀ (s:St) (av:AV),GoodH P o s (HL.getD (cs.getD i 0) []) av → ∀ c,c ≤ ops.size → (∀ m,ms.contains m = true → m ∈ (befores ops.toList []).getD i [] → m < c) → (∀ m,ms.contains m = true → m < c → i ∉ (befores ops.toList []).getD m []) → MO P o s (HL.getD c []) av (HL.getD c []):=by
  intro i hi hmi o ho s av ⟨g0,g⟩ c hc h1 h2
  cases hq:insQ o with
  | true=>exact g0 hq _
  | false =>
  obtain ⟨g1,g2,g3⟩:=g hq
  rw [ho] at hq
  have hcc:cs.getD i 0 ≤ c:=by
   rcases ((key i hi hmi).2 hq).1 with h3 | ⟨h3,h4⟩
   ·omega
   ·have:=h1 _ h3 h4; omega
  obtain ⟨e,he⟩:=grow i hi hmi hq c hcc hc h2
  rw [he]
  exact g1.frame g2 g3
 refine ⟨SWP.drawM (mem:=fun i=>ms.contains i) (hN:=fun i=>HL.getD i []) hm hd ⟨?_,fun i hi hmi=>stay1 i hi hmi,fun a b hab hb ha hbm=>?_,fun i o ho=>(a5 i o ho).1,a1,a2,?_,fun i o ho=>?_⟩ hQ⟩
 ·exact a4 0 (Nat.le_refl _)
 ·have:=k1 a (List.contains_iff_mem.1 ha) b (List.contains_iff_mem.1 hbm)
  simp only [Bool.or_eq_true,Bool.not_eq_true',decide_eq_false_iff_not,List.contains_iff_mem] at this
  exact this.resolve_left (fun h=>h hab)
 ·rw [a3]; simp
 ·have hi:i < ops.size:=by
   rcases Nat.lt_or_ge i ops.size with h1 | h1
   ·exact h1
   ·rw [List.getElem?_eq_none (by simpa using h1)] at ho; cases ho
  have hoe:o = ops[i]:=by
   rw [Array.getElem?_toList,Array.getElem?_eq_getElem hi] at ho
   exact (Option.some.inj ho).symm
  obtain ⟨_,s,s1,s2,s3⟩:=a5 i o ho
  refine ⟨s,s1,s2,?_⟩
  cases hmi:ms.contains i with
  | true=>rw [if_pos hmi] at s3; rw [if_pos rfl]; exact ⟨s3.1,s3.2.1⟩
  | false =>
   rw [if_neg (by rw [hmi]; simp)] at s3
   rw [if_neg (by simp)]
   have s4:=s3.2
   cases hg:o.guard with
   | none=>rw [hg] at s4; exact good i hi hmi o hoe s _ s4
   | some jw =>
    obtain ⟨j,want⟩:=jw
    rw [hg] at s4
    simp only at s4 ⊢
    obtain ⟨d,hd',hor⟩:=s4
    refine ⟨d,hd',hor.imp (fun ⟨b,hb,h⟩=>⟨b,hb,h.imp (fun ⟨x,y⟩=>⟨x,good i hi hmi o hoe s _ y⟩) (fun h=>h)⟩) (fun h=>h)⟩
end Go.Q
namespace Go.Q
open Go
abbrev GivesE [KN:Know] (P:Program) (g:FuncId) (args:List AV) (v:Nat → AV):Prop:=ACalls P g args [] (fun r h=>∃ x,r = v x ∧ h = [])
theorem CallN.byE [KN:Know] {P:Program} {n:Nat} {g:FuncId} {args:List AV} {st:St} {K:St → AV → Prop} {v:Nat → AV} (h:GivesE P g args v) (hp:args.all pureQ = true) (hv:∀ x,pureT (v x) = true) (hK:∀ x,K st (v x)):CallN P n g args st K :=
 ⟨CallOK.pure h hp (by
  rintro r h' ⟨x,rfl,rfl⟩
  rw [pureT_sh2 (hv x)]
  simpa using hK x)⟩
end Go.Q
namespace Go.Q
open Go
def Le {α:Type} (a b:Option α):Prop:=∀ r,a = some r → b = some r
theorem Le.refl {α:Type} (a:Option α):Le a a:=fun _ h=>h
theorem Le.of {α:Type} {a b:Option α} {r:α} (h:Le a b) (e:a = some r):b = some r:=h r e
theorem Le.none {α:Type} (b:Option α):Le Option.none b:=fun _ h=>by cases h
def chkD {ρ:Type} (c:Prop) [h:Decidable c] (X:Option ρ):Option ρ:=bif @decide c h then X else none
theorem Le.chk {ρ:Type} {c:Prop} [Decidable c] {a b:Option ρ} (h:Le a b):Le (chkD c a) (chk c b):=by
 intro r e
 unfold chkD at e
 unfold Q.chk
 by_cases hc:c
 ·rw [if_pos hc]; rw [decide_eq_true hc] at e; exact h r e
 ·rw [decide_eq_false hc] at e; cases e
theorem Le.letk {α ρ:Type} {x y:α} {f g:α → Option ρ} (e:x = y) (h:∀ z,Le (f z) (g z)):Le (letk x f) (letk y g):=by
 subst e; exact h x
theorem Le.bind {α ρ:Type} {a b:Option α} {f g:α → Option ρ} (h:Le a b) (k:∀ z,Le (f z) (g z)):Le (a.bind f) (b.bind g):=by
 intro r e
 obtain ⟨y,e1,e2⟩:=bind_elim e
 rw [h y e1]; exact k y r e2
theorem Le.bif {ρ:Type} {t:Bool} {a b c d:Option ρ} (h:Le a b) (k:Le c d):Le (bif t then a else c) (bif t then b else d):=by
 cases t <;> assumption
theorem Le.map {α β:Type} {f:α → β} {a b:Option α} (h:Le a b):Le (a.map f) (b.map f):=by
 intro r e
 obtain ⟨y,e1,e2⟩:=map_elim e
 rw [h y e1]; exact congrArg some e2
theorem Le.iter {σ ρ:Type} {f g:σ → Option (σ ⊕ ρ)} (h:∀ s,Le (f s) (g s)):∀ (n:Nat) (s:σ),Le (iterO f n s) (iterO g n s)
 | 0,_=>Le.none _
 | n + 1,s=>by
  intro r e
  unfold iterO at e ⊢
  split at e
  ·rename_i s' hs; rw [h s _ hs]; exact Le.iter h n s' r e
  ·rename_i r' hs; rw [h s _ hs]; exact e
  ·cases e
theorem Le.loop {σ ρ:Type} {f g:σ → Option (σ ⊕ ρ)} {n:Nat} {s:σ} (h:∀ s,Le (f s) (g s)):Le (iterO f n s) (loopO g s) :=
 fun r e=>(@loopO_iff Know.none _ _ _ _ _).2 ⟨n,Le.iter h n s r e⟩
class Fc (α:Type) where
 fc:{β:Type} → α → (α → β) → β
 eq:∀ {β:Type} (x:α) (k:α → β),fc x k = k x
noncomputable instance:Fc Nat:=⟨fun n k=>Nat.rec (motive:=fun _=>_) (k 0) (fun m _=>k (m + 1)) n,fun n k=>by cases n <;> rfl⟩
noncomputable instance:Fc Bool:=⟨fun b k=>Bool.rec (motive:=fun _=>_) (k false) (k true) b,fun b k=>by cases b <;> rfl⟩
noncomputable instance:Fc Unit:=⟨fun _ k=>k (),fun _ _=>rfl⟩
noncomputable instance:Fc Int:=⟨fun x k=>Int.rec (motive:=fun _=>_) (fun n=>Fc.fc n fun n=>k (.ofNat n)) (fun n=>Fc.fc n fun n=>k (.negSucc n)) x,fun x k=>by cases x <;> simp only [Fc.eq]⟩
noncomputable instance:Fc UInt8:=⟨fun x k=>Fc.fc x.toNat fun n=>k (UInt8.ofNat n),fun x k=>by simp only [Fc.eq]; rw [UInt8.ofNat_toNat]⟩
noncomputable def fcL {α:Type} [Fc α] {β:Type} (l:List α):(List α → β) → β:=List.rec (motive:=fun _=>(List α → β) → β) (fun k=>k []) (fun a _ ih k=>Fc.fc a fun a=>ih fun r=>k (a :: r)) l
theorem fcL_eq {α:Type} [Fc α] {β:Type}:∀ (l:List α) (k:List α → β),fcL l k = k l
 | [],_=>rfl
 | a :: r,k=>by
  show (Fc.fc a fun a=>fcL r fun r=>k (a :: r)) = _
  rw [Fc.eq,fcL_eq r]
noncomputable instance {α:Type} [Fc α]:Fc (List α):=⟨fcL,fcL_eq⟩
noncomputable instance:Fc ByteArray:=⟨fun s k=>Fc.fc s.data.toList fun l=>k ⟨⟨l⟩⟩,fun s k=>by simp only [Fc.eq]⟩
noncomputable instance {α β:Type} [Fc α] [Fc β]:Fc (α × β):=⟨fun p k=>Prod.rec (motive:=fun _=>_) (fun a b=>Fc.fc a fun a=>Fc.fc b fun b=>k (a,b)) p,fun p k=>by obtain ⟨a,b⟩:=p; simp only [Fc.eq]⟩
noncomputable def letkF {α ρ:Type} [Fc α] (x:α) (X:α → Option ρ):Option ρ:=Fc.fc x X
noncomputable def bindF {α ρ:Type} [Fc α] (x:Option α) (X:α → Option ρ):Option ρ:=x.bind fun z=>Fc.fc z X
theorem Le.letkF {α ρ:Type} [Fc α] {x y:α} {f g:α → Option ρ} (e:x = y) (h:∀ z,Le (f z) (g z)):Le (Go.Q.letkF x f) (Go.Q.letk y g):=by
 subst e; unfold Go.Q.letkF Go.Q.letk; rw [Fc.eq]; exact h x
theorem Le.bindF {α ρ:Type} [Fc α] {a b:Option α} {f g:α → Option ρ} (h:Le a b) (k:∀ z,Le (f z) (g z)):Le (Go.Q.bindF a f) (b.bind g):=by
 unfold Go.Q.bindF
 refine Le.bind h (fun z=>?_)
 rw [Fc.eq]; exact k z
end Go.Q
namespace Go.Q
open Go
def fitQ (p:Nat → Bool):AV → Bool
 | .undef=>true
 | .ref o _ _=>p o
 | .ptr o _=>p o
 | .eptr o _ _=>p o
 | v=>pureQ v
def fitO (p:Nat → Bool):AObj → Bool
 | .box cs=>cs.all (fitQ p)
 | _=>true
theorem fit_rel [KN:Know] {I:Nat → Prop} {w:World} {μ μ':MM} {p:Nat → Bool} (hμ:∀ o,p o = true → μ'[o]? = μ[o]?) {v:AV} {x:Value} (hf:fitQ p v = true) (h:RelV I w μ v x):RelV I w μ' v x:=by
 have hp:∀ v,pureQ v = true → RelV I w μ v x → RelV I w μ' v x:=fun v hv hr=>pureQ_ok hv hr μ'
 have hloc:∀ o l,p o = true → μ.loc o = some l → μ'.loc o = some l:=fun o l ho hl=>MM.loc_some.2 ((hμ o ho).trans (MM.loc_some.1 hl))
 cases v with
 | undef=>exact .undef _ _
 | ref o off len =>
  have ho:p o = true:=hf
  cases h with
  | ref _ _ _ _ cap l hl hlen hcap=>exact .ref _ o off len cap l (hloc o l ho hl) hlen hcap
  | ref0 _ _ hl=>exact .ref0 _ o ((hμ o ho).trans hl)
  | refE _ _ _ l a hl=>exact .refE _ o off l a (hloc o l ho hl)
  | refX _ _ _ _ _ hl=>exact .refX _ o off len _ ((hμ o ho).trans hl)
 | ptr o j =>
  have ho:p o = true:=hf
  cases h with
  | ptrX _ _ _ _ hl=>exact .ptrX _ o j _ ((hμ o ho).trans hl)
  | ptr _ _ _ l hl=>exact .ptr _ o j l (hloc o l ho hl)
 | eptr o i j =>
  have ho:p o = true:=hf
  cases h with
  | eptrX _ _ _ _ _ hl=>exact .eptrX _ o i j _ ((hμ o ho).trans hl)
  | eptr _ _ _ _ l hl=>exact .eptr _ o i j l (hloc o l ho hl)
 | lit u=>exact hp _ hf h
 | nils=>exact hp _ hf h
 | agg cs=>exact hp _ hf h
 | tup cs=>exact hp _ hf h
 | vs s es=>exact hp _ hf h
 | iptr c=>exact hp _ hf h
 | fn f a b=>exact hp _ hf h
theorem fit_obj [KN:Know] {I I':Nat → Prop} {w w':World} {μ μ':MM} {p:Nat → Bool} (hμ:∀ o,p o = true → μ'[o]? = μ[o]?) (hI:∀ b,I b → I' b) (hw:∀ b,I b → w'.heap[b]? = w.heap[b]?) {ob:AObj} {x:Slot} (hf:fitO p ob = true)
  (hl:∀ l,x = .at l → w'.heap[l.block]? = w.heap[l.block]?) (h:RelO I w μ ob x):RelO I' w' μ' ob x:=by
 cases h with
 | dead=>exact .dead
 | arr0 s=>exact .arr0 s
 | arr s es l val hse hb hsz hn hc hv =>
  exact .arr s es l val hse (hb.same (hl l rfl)) hsz hn (fun i j hi hj=>by rw [cell_same (hl l rfl)]; exact hc i j hi hj) (fun i hi j hj=>(hv i hi j hj).mono hI hw)
 | box cs l val hb hsz hc hv =>
  exact .box cs l val (hb.same (hl l rfl)) hsz (fun j hj=>by rw [cell_same (hl l rfl)]; exact hc j hj) (fun j hj=>(fit_rel hμ (List.all_eq_true.1 hf _ (List.getElem_mem hj)) (hv j hj)).mono hI hw)
theorem RelH.lt [KN:Know] {I:Nat → Prop} {μ:MM} {h:List AObj} {w:World} (H:RelH I μ h w) {b:Nat} (hb:μ.owns b):b < w.heap.size:=by
 obtain ⟨o,l,hl,rfl⟩:=hb
 have ho:=MM.loc_some.1 hl
 have hlt:o < μ.length:=(List.getElem?_eq_some_iff.1 ho).1
 obtain ⟨ob,hob⟩:∃ ob,h[o]? = some ob:=⟨_,List.getElem?_eq_getElem (by rw [← H.len]; exact hlt)⟩
 obtain ⟨c,T,lo,hi,e,_⟩:=(H.objs o ob _ hob ho).blockOK
 rcases Nat.lt_or_ge l.block w.heap.size with h1 | h1
 ·exact h1
 ·rw [Array.getElem?_eq_none h1] at e; cases e
def keepF (k m:Nat):AV → AV
 | .ptr o j=>bif Nat.blt o k || Nat.ble m o then .ptr o j else .undef
 | .ref o a b=>bif Nat.ble m o then .ref o a b else .undef
 | v=>bif pureQ v then v else .undef
theorem keepF_undef (k m:Nat):keepF k m .undef = .undef:=rfl
theorem keepF_rel [KN:Know] {I I':Nat → Prop} {w w':World} {μ μ':MM} {k m:Nat} (hI:∀ b,I b → I' b) (hw:∀ b,I b → w'.heap[b]? = w.heap[b]?) (hp:∀ o,o < k → μ'[o]? = μ[o]? ∨ μ'[o]? = some .gone) (hm:∀ o,m ≤ o → μ'[o]? = μ[o]?) {v:AV} {x:Value} (h:RelV I w μ v x):RelV I' w' μ' (keepF k m v) x:=by
 have hpure:∀ v,RelV I w μ v x → RelV I' w' μ' (bif pureQ v then v else .undef) x:=by
  intro v hv
  cases hq:pureQ v with
  | true=>exact (pureQ_ok hq hv μ').mono hI hw
  | false=>exact .undef _ _
 cases v with
 | ptr o j =>
  show RelV I' w' μ' (bif Nat.blt o k || Nat.ble m o then .ptr o j else .undef) x
  cases hb:(Nat.blt o k || Nat.ble m o) with
  | false=>exact .undef _ _
  | true =>
   have ho:μ'[o]? = μ[o]? ∨ μ'[o]? = some .gone:=by
    rcases Bool.or_eq_true_iff.1 hb with h1 | h1
    ·exact hp o (Nat.le_of_ble_eq_true h1)
    ·exact .inl (hm o (Nat.le_of_ble_eq_true h1))
   cases h with
   | ptrX _ _ _ _ hl =>
    rcases ho with e | e
    ·exact .ptrX _ o j _ (e.trans hl)
    ·exact .ptrX _ o j _ e
   | ptr _ _ _ l hl =>
    rcases ho with e | e
    ·exact .ptr _ o j l (MM.loc_some.2 (e.trans (MM.loc_some.1 hl)))
    ·exact .ptrX _ o j _ e
 | ref o a b =>
  show RelV I' w' μ' (bif Nat.ble m o then .ref o a b else .undef) x
  cases hb:Nat.ble m o with
  | false=>exact .undef _ _
  | true=>exact (fit_rel (p:=fun o=>Nat.ble m o) (v:=.ref o a b) (fun o ho=>hm o (Nat.le_of_ble_eq_true ho)) (show fitQ _ (.ref o a b) = true from hb) h).mono hI hw
 | _=>exact hpure _ h
theorem CallOK.frame [KN:Know] {P:Program} {n k m:Nat} {g:FuncId} {args:List AV} {st:St} {K:St → AV → Prop} {R:AV → List AObj → Prop} {hs rest:List AObj} (hn:n ≤ k) (hst:st.h = hs ++ rest) (hm:hs.length = m) (h:ACallsK P g args hs k R)
  (hlen:∀ r h',R r h' → h'.length = m) (fh:hs.all (fitO (fun o=>Nat.blt o m)) = true) (fa:args.all (fitQ (fun o=>Nat.blt o m)) = true) (fr:rest.all (fitO (fun o=>Nat.ble m o)) = true)
  (hK:∀ r h',R r h' → K ⟨st.n,st.ts.map (fun p=>(p.1,keepF k m p.2)),h' ++ rest⟩ r):CallOK P n g args st K:=by
 intro I μ a w vals Rl _ hv
 have H:=Rl.heap
 rw [hst] at H
 have hμl:μ.length = m + rest.length:=by rw [H.len,List.length_append,hm]
 obtain ⟨μ1,μ2,rfl,hl1⟩:∃ μ1 μ2,μ = μ1 ++ μ2 ∧ μ1.length = m:=⟨μ.take m,μ.drop m,(List.take_append_drop m μ).symm,by rw [List.length_take]; omega⟩
 have g1:∀ o,o < m → (μ1 ++ μ2)[o]? = μ1[o]?:=fun o ho=>List.getElem?_append_left (by omega)
 have g2:∀ (μ':MM),μ'.length = m → ∀ o,m ≤ o → (μ' ++ μ2)[o]? = μ2[o - m]?:=fun μ' h' o ho=>by rw [List.getElem?_append_right (by omega),h']
 have l1:∀ o l,μ1.loc o = some l → (μ1 ++ μ2).loc o = some l:=fun o l hl=>by
  have:=MM.loc_some.1 hl
  have ho:o < μ1.length:=(List.getElem?_eq_some_iff.1 this).1
  exact MM.loc_some.2 ((g1 o (by omega)).trans this)
 have o1:∀ b,μ1.owns b → (μ1 ++ μ2).owns b:=fun b ⟨o,l,h1,h2⟩=>⟨o,l,l1 o l h1,h2⟩
 have o2:∀ b,μ2.owns b → (μ1 ++ μ2).owns b:=fun b ⟨o,l,h1,h2⟩=>⟨o + m,l,MM.loc_some.2 (by rw [g2 μ1 hl1 _ (by omega),Nat.add_sub_cancel]; exact MM.loc_some.1 h1),h2⟩
 have bltm:∀ o,Nat.blt o m = true → (μ1)[o]? = (μ1 ++ μ2)[o]?:=fun o ho=>(g1 o (Nat.le_of_ble_eq_true ho)).symm
 have apart12:∀ b,μ1.owns b → ¬ μ2.owns b:=fun b ⟨o,l,h1,h2⟩ ⟨o',l',h3,h4⟩=>by
  have e:=H.apart o (o' + m) l l' (l1 o l h1) (MM.loc_some.2 (by rw [g2 μ1 hl1 _ (by omega),Nat.add_sub_cancel]; exact MM.loc_some.1 h3)) (by rw [h2,h4])
  have ho:o < μ1.length:=(List.getElem?_eq_some_iff.1 (MM.loc_some.1 h1)).1
  omega
 have H1:RelH I μ1 hs w:=by
  refine ⟨by rw [hl1,hm],fun o ob x ho hx=>?_,fun b hb=>H.notI b (o1 b hb),fun o o' l l' h1 h2 e=>H.apart o o' l l' (l1 o l h1) (l1 o' l' h2) e,H.imm,H.know⟩
  have hlt:o < μ1.length:=(List.getElem?_eq_some_iff.1 hx).1
  have:=H.objs o ob x (by rw [List.getElem?_append_left (by omega)]; exact ho) ((g1 o (by omega)).trans hx)
  exact fit_obj bltm (fun _ h=>h) (fun _ _=>rfl) (List.all_eq_true.1 fh ob (List.mem_of_getElem? ho)) (fun _ _=>rfl) this
 have hv1:ArgsRel I w μ1 args vals:=⟨hv.1,fun i hi=>fit_rel bltm (List.all_eq_true.1 fa _ (List.getElem_mem hi)) (hv.2 i hi)⟩
 refine (h I μ1 w vals H1 hv1).mono ?_
 rintro e w' ⟨v,r,h',I',μ',rfl,hR,H',hr,S,hp⟩
 have hl':μ'.length = m:=by rw [H'.len,hlen r h' hR]
 have lo':∀ o,o < m → (μ' ++ μ2)[o]? = μ'[o]?:=fun o ho=>List.getElem?_append_left (by omega)
 have hi':∀ o,m ≤ o → (μ' ++ μ2)[o]? = (μ1 ++ μ2)[o]?:=fun o ho=>by rw [g2 μ' hl' o ho,g2 μ1 hl1 o ho]
 have hwI:∀ b,I b → w'.heap[b]? = w.heap[b]?:=S.keepI H1
 have own2:∀ b,μ2.owns b → w'.heap[b]? = w.heap[b]?:=fun b hb=>S.same b (H.lt (o2 b hb)) (fun h1=>apart12 b h1 hb)
 have split:∀ o l,(μ' ++ μ2).loc o = some l → (o < m ∧ μ'.loc o = some l) ∨ (m ≤ o ∧ (μ1 ++ μ2).loc o = some l ∧ μ2.owns l.block):=fun o l hl=>by
  have h0:=MM.loc_some.1 hl
  rcases Nat.lt_or_ge o m with h1 | h1
  ·exact .inl ⟨h1,MM.loc_some.2 ((lo' o h1).symm.trans h0)⟩
  ·refine .inr ⟨h1,MM.loc_some.2 ((hi' o h1).symm.trans h0),o - m,l,MM.loc_some.2 ?_,rfl⟩
   rw [← g2 μ' hl' o h1]; exact h0
 have far:∀ b,μ'.owns b → ¬ μ2.owns b:=fun b hb h2=>by
  rcases S.own b hb with h3 | h3
  ·exact apart12 b h3 h2
  ·have:=H.lt (o2 b h2); omega
 have H'':RelH I' (μ' ++ μ2) (h' ++ rest) w':=by
  refine ⟨by rw [List.length_append,List.length_append,hl',hlen r h' hR]; rw [List.length_append,hl1] at hμl; omega,fun o ob x ho hx=>?_,fun b hb hI=>?_,fun o o' l l' h1 h2 e=>?_,H'.imm,H'.know⟩
  ·have hh:=hlen r h' hR
   rcases Nat.lt_or_ge o m with h1 | h1
   ·rw [List.getElem?_append_left (by omega)] at ho
    rw [lo' o h1] at hx
    exact (H'.objs o ob x ho hx).mono (fun _ h=>h) (fun _ _=>rfl) (fun _ _ h=>h.sub (MM.sub_append _ _)) (fun _ _=>rfl)
   ·rw [List.getElem?_append_right (by omega),hh] at ho
    rw [hi' o h1] at hx
    have:=H.objs o ob x (by rw [List.getElem?_append_right (by omega),hm]; exact ho) hx
    refine fit_obj (p:=fun o=>Nat.ble m o) (fun o ho=>hi' o (Nat.le_of_ble_eq_true ho)) S.mono hwI (List.all_eq_true.1 fr ob (List.mem_of_getElem? ho)) (fun l e=>?_) this
    subst e
    refine own2 _ ⟨o - m,l,MM.loc_some.2 ?_,rfl⟩
    rw [← g2 μ1 hl1 o h1]; exact hx
  ·obtain ⟨o,l,hl,rfl⟩:=hb
   rcases split o l hl with ⟨_,h2⟩ | ⟨_,h2,h3⟩
   ·exact H'.notI _ ⟨o,l,h2,rfl⟩ hI
   ·rcases S.imm _ hI with h4 | h4 | h4
    ·exact H.notI _ (o2 _ h3) h4
    ·exact apart12 _ h4 h3
    ·have:=H.lt (o2 _ h3); omega
  ·rcases split o l h1 with ⟨a1,a2⟩ | ⟨a1,a2,a3⟩ <;> rcases split o' l' h2 with ⟨b1,b2⟩ | ⟨b1,b2,b3⟩
   ·exact H'.apart o o' l l' a2 b2 e
   ·exact absurd b3 (far _ ⟨o,l,a2,e⟩)
   ·exact absurd a3 (far _ ⟨o',l',b2,e.symm⟩)
   ·exact H.apart o o' l l' a2 b2 e
 refine ⟨v,r,I',μ' ++ μ2,_,rfl,hK r h' hR,⟨fun d=>?_,Rl.size,Rl.defers,H''⟩,hr.sub (MM.sub_append _ _),⟨S.mono,S.grow,fun b hb hn=>S.same b hb (fun h1=>hn (o1 b h1)),fun b hb=>?_,fun b hb=>?_,S.ext⟩,?_⟩
 ·have hd:=Rl.tmps d
  show RelV I' w' (μ' ++ μ2) (if d < st.n then look d (st.ts.map fun p=>(p.1,keepF k m p.2)) else .undef) _
  unfold St.get at hd
  split
  ·rename_i h0
   rw [if_pos h0] at hd
   rw [look_map _ (keepF_undef k m)]
   have hkm:k ≤ m:=by rw [← hl']; exact hp.1
   exact keepF_rel S.mono hwI (fun o ho=>by rw [lo' o (by omega),g1 o (by omega)]; exact hp.2 o ho) hi' hd
  ·exact .undef _ _
 ·obtain ⟨o,l,hl,rfl⟩:=hb
  rcases split o l hl with ⟨_,h2⟩ | ⟨_,h2,h3⟩
  ·rcases S.own _ ⟨o,l,h2,rfl⟩ with h4 | h4
   ·exact .inl (o1 _ h4)
   ·exact .inr h4
  ·exact .inl (o2 _ h3)
 ·rcases S.imm b hb with h4 | h4 | h4
  ·exact .inl h4
  ·exact .inr (.inl (o1 _ h4))
  ·exact .inr (.inr h4)
 ·refine ⟨by rw [List.length_append]; have:=hp.1; omega,fun o ho=>?_⟩
  have hkm:k ≤ m:=by rw [← hl']; exact hp.1
  rw [lo' o (by omega),g1 o (by omega)]
  exact hp.2 o (by omega)
end Go.Q
