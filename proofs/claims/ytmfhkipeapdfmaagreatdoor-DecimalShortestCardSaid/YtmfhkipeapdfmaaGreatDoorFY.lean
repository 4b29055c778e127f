import Derived.Test.YtmfhkipeapdfmaaGreatDoorFX
import Derived.WalkSpells
namespace Go.Q
open Go
def MM.SubN (μ μ':MM):Prop:=∀ (o:Nat) (x:Slot),μ[o]? = some x → μ'[o]? = some x ∨ μ'[o]? = some .gone ∨ (x = .nil ∧ ∃ l,μ'[o]? = some (.at l))
theorem RelV.subN {I:Nat → Prop} {w:World} {μ μ':MM} (hs:μ.SubN μ') {a:AV} {v:Value} (h:RelV I w μ a v):RelV I w μ' a v:=by
 have at':∀ {o:Nat} {l:Loc},μ.loc o = some l → μ'.loc o = some l ∨ μ'[o]? = some .gone:=fun {o l} hl=>by
  rcases hs o _ (MM.loc_some.1 hl) with h1 | h1 | ⟨h1,_⟩
  ·exact .inl (MM.loc_some.2 h1)
  ·exact .inr h1
  ·cases h1
 have gone':∀ {o:Nat},μ[o]? = some .gone → μ'[o]? = some .gone:=fun {o} hl=>by
  rcases hs o _ hl with h1 | h1 | ⟨h1,_⟩
  ·exact h1
  ·exact h1
  ·cases h1
 induction h generalizing μ' with
 | undef=>exact .undef ..
 | lit=>exact .lit ..
 | nils=>exact .nils ..
 | agg μ cs xs hn _ ih=>exact .agg _ cs xs hn (fun i hi=>ih i hi hs at' gone')
 | tup μ cs xs hn _ ih=>exact .tup _ cs xs hn (fun i hi=>ih i hi hs at' gone')
 | vs μ s es a cap val hcap ha hn hv ih=>exact .vs _ s es a cap val hcap ha hn hv
 | ref μ o off len cap l hl hlen hcap=>exact (at' hl).elim (fun h=>.ref _ o off len cap l h hlen hcap) (fun h=>.refX _ o off len _ h)
 | ref0 μ o hl =>
  rcases hs o _ hl with h1 | h1 | ⟨_,l,h1⟩
  ·exact .ref0 _ o h1
  ·exact .refX _ o 0 0 _ h1
  ·exact .refE _ o 0 l none (MM.loc_some.2 h1)
 | refE μ o off l a hl=>exact (at' hl).elim (fun h=>.refE _ o off l a h) (fun h=>.refX _ o off 0 _ h)
 | refX μ o off len v hl=>exact .refX _ o off len v (gone' hl)
 | ptrX μ o j v hl=>exact .ptrX _ o j v (gone' hl)
 | eptrX μ o i j v hl=>exact .eptrX _ o i j v (gone' hl)
 | ptr μ o j l hl=>exact (at' hl).elim (fun h=>.ptr _ o j l h) (fun h=>.ptrX _ o j _ h)
 | eptr μ o i j l hl=>exact (at' hl).elim (fun h=>.eptr _ o i j l h) (fun h=>.eptrX _ o i j _ h)
 | iptr μ c b off val hb hc hv ih=>exact .iptr _ c b off val hb hc hv
 | fn μ f first captured fs cs hf hc _ _ ih1 ih2=>exact .fn _ f first captured fs cs hf hc (fun i hi=>ih1 i hi hs at' gone') (fun i hi=>ih2 i hi hs at' gone')
theorem MM.SubN.refl (μ:MM):MM.SubN μ μ:=fun _ _ h=>.inl h
def maskF (F:List Nat):Nat → List AObj → List AObj
 | _,[]=>[]
 | i,o :: r=>(match F.contains i with | true=>o | false=>.dead) :: maskF F (i + 1) r
def maskM (F:List Nat):Nat → MM → MM
 | _,[]=>[]
 | i,o :: r=>(match F.contains i with | true=>o | false=>.gone) :: maskM F (i + 1) r
theorem maskF_len (F:List Nat):∀ (h:List AObj) (i:Nat),(maskF F i h).length = h.length
 | [],_=>rfl
 | o :: r,i=>by simp [maskF,maskF_len F r (i + 1)]
theorem maskM_len (F:List Nat):∀ (h:MM) (i:Nat),(maskM F i h).length = h.length
 | [],_=>rfl
 | o :: r,i=>by simp [maskM,maskM_len F r (i + 1)]
theorem maskF_get (F:List Nat):∀ (h:List AObj) (i k:Nat),(maskF F i h)[k]? = (h[k]?).map fun o=>match F.contains (i + k) with | true=>o | false=>.dead
 | [],_,k=>by simp [maskF]
 | o :: r,i,0=>by simp [maskF]
 | o :: r,i,k + 1=>by
  simp only [maskF,List.getElem?_cons_succ]
  rw [maskF_get F r (i + 1) k,show i + 1 + k = i + (k + 1) by omega]
theorem maskM_get (F:List Nat):∀ (h:MM) (i k:Nat),(maskM F i h)[k]? = (h[k]?).map fun o=>match F.contains (i + k) with | true=>o | false=>.gone
 | [],_,k=>by simp [maskM]
 | o :: r,i,0=>by simp [maskM]
 | o :: r,i,k + 1=>by
  simp only [maskM,List.getElem?_cons_succ]
  rw [maskM_get F r (i + 1) k,show i + 1 + k = i + (k + 1) by omega]
theorem maskM_sub (F:List Nat) (μ:MM):MM.Sub μ (maskM F 0 μ):=fun o x h=>by
 rw [maskM_get,h,Option.map_some,Nat.zero_add]
 cases F.contains o with
 | true=>exact .inl rfl
 | false=>exact .inr rfl
theorem maskM_in {F:List Nat} {μ:MM} {o:Nat} (h:F.contains o = true):(maskM F 0 μ)[o]? = μ[o]?:=by
 rw [maskM_get,Nat.zero_add,h]
 cases μ[o]? <;> rfl
theorem maskM_loc {F:List Nat} {μ:MM} {o:Nat} {l:Loc} (h:(maskM F 0 μ).loc o = some l):F.contains o = true ∧ μ.loc o = some l:=by
 have h1:=MM.loc_some.1 h
 rw [maskM_get,Nat.zero_add] at h1
 cases hc:F.contains o with
 | true =>
  rw [hc] at h1
  refine ⟨rfl,MM.loc_some.2 ?_⟩
  cases hm:μ[o]? with
  | none=>rw [hm] at h1; cases h1
  | some x=>rw [hm] at h1; exact h1
 | false =>
  rw [hc] at h1
  cases hm:μ[o]? with
  | none=>rw [hm] at h1; cases h1
  | some x=>rw [hm] at h1; cases h1
def updF (F:List Nat) (h h':List AObj):List AObj:=(List.range h.length).map fun k=>match F.contains k with | true=>h'.getD k .dead | false=>h.getD k .dead
theorem updF_len (F:List Nat) (h h':List AObj):(updF F h h').length = h.length:=by simp [updF]
theorem updF_get {F:List Nat} {h h':List AObj} {k:Nat} (hk:k < h.length):(updF F h h')[k]? = some (match F.contains k with | true=>h'.getD k .dead | false=>h.getD k .dead):=by
 simp [updF,hk]
def fit1 (p:Nat → Bool):AV → Bool
 | .agg cs=>cs.all (fitQ p)
 | .tup cs=>cs.all (fitQ p)
 | v=>fitQ p v
theorem fit1_rel [KN:Know] {I:Nat → Prop} {w:World} {μ μ':MM} {p:Nat → Bool} (hμ:∀ o,p o = true → μ'[o]? = μ[o]?) {v:AV} {x:Value} (hf:fit1 p v = true) (h:RelV I w μ v x):RelV I w μ' v x:=by
 cases h with
 | agg _ cs xs hn hc=>exact .agg _ cs xs hn (fun i hi=>fit_rel hμ (List.all_eq_true.1 hf _ (List.getElem_mem hi)) (hc i hi))
 | tup _ cs xs hn hc=>exact .tup _ cs xs hn (fun i hi=>fit_rel hμ (List.all_eq_true.1 hf _ (List.getElem_mem hi)) (hc i hi))
 | undef=>exact .undef _ _
 | ref _ o off len cap l hl hlen hcap=>exact fit_rel hμ hf (.ref _ o off len cap l hl hlen hcap)
 | ref0 _ o hl=>exact fit_rel hμ hf (.ref0 _ o hl)
 | refE _ o off l a hl=>exact fit_rel hμ hf (.refE _ o off l a hl)
 | refX _ o off len _ hl=>exact fit_rel hμ hf (.refX _ o off len _ hl)
 | ptrX _ o j _ hl=>exact fit_rel hμ hf (.ptrX _ o j _ hl)
 | eptrX _ o i j _ hl=>exact fit_rel hμ hf (.eptrX _ o i j _ hl)
 | ptr _ o j l hl=>exact fit_rel hμ hf (.ptr _ o j l hl)
 | eptr _ o i j l hl=>exact fit_rel hμ hf (.eptr _ o i j l hl)
 | lit=>exact .lit _ _
 | nils=>exact .nils _
 | vs _ s es a cap val hcap ha hn hv=>exact .vs _ s es a cap val hcap ha hn hv
 | iptr _ c b off val hb hc hv=>exact .iptr _ c b off val hb hc hv
 | fn _ f a b fs cs hf' hc h1 h2=>exact fit_rel hμ hf (.fn _ f a b fs cs hf' hc h1 h2)
def OpF [KN:Know] (P:Program) (o:Oper) (s:St) (F:List Nat) (R:Option Nat) (h:List AObj) (av:AV) (h':List AObj):Prop :=
 ∀ hh,hh.length = h.length → (∀ k,F.contains k = true → hh[k]? = h[k]?) →
 ∀ I μ a w,Rel I μ (restrictH o s hh) a w → (∀ r,R = some r → μ[r]? = some .nil) → ∀ (next:Act → World → Prop) (Q:Exit → Act → World → Prop),
  (∀ I' μ' v w',(∀ k,o.dst = some k → k < s.n → RelV I' w' μ' av v) → RelH I' μ' (updF F hh h') w' → Step I μ w I' μ' w' → MM.SubN μ μ' → (∀ k,F.contains k = false → μ'[k]? = μ[k]?) →
   (∀ k,k < h.length → R ≠ some k → μ'[k]? = μ[k]? ∨ μ'[k]? = some .gone) → next (a.put o.dst v) w') → o.wp P a w next Q
theorem owns_of {μ:MM} {o:Nat} {l:Loc} (h:μ.loc o = some l):μ.owns l.block:=⟨o,l,h,rfl⟩
theorem OpF.back [KN:Know] {I I':Nat → Prop} {μ ν:MM} {w w':World} {hh h' hν:List AObj} {F:List Nat} {R:Option Nat} {p:Nat → Bool} (t:Nat → Nat) (H:RelH I μ hh w) (H1:RelH I' ν hν w') (S1:Step I (maskM F 0 μ) w I' ν w')
  (ht:∀ k,F.contains k = true → k < hh.length → t k < ν.length) (hi:∀ k k',F.contains k = true → k < hh.length → F.contains k' = true → k' < hh.length → t k = t k' → k = k')
  (hp:∀ k,p k = true → F.contains k = true ∧ k < hh.length ∧ t k = k)
  (hob:∀ k,F.contains k = true → k < hh.length → hν[t k]? = some (h'.getD k .dead) ∧ fitO p (h'.getD k .dead) = true)
  (hslot:∀ k,F.contains k = true → k < hh.length → ν[t k]? = μ[k]? ∨ ν[t k]? = some .gone ∨ (R = some k ∧ μ[k]? = some .nil))
  (hnil:∀ k x,F.contains k = true → k < hh.length → μ[k]? = some .nil → ν[t k]? = some x → x = .nil ∨ x = .gone ∨ ∃ l,x = .at l) :
  ∃ μ':MM,RelH I' μ' (updF F hh h') w' ∧ Step I μ w I' μ' w' ∧ MM.SubN μ μ' ∧ (∀ k,F.contains k = false → μ'[k]? = μ[k]?) ∧ (∀ k,k < hh.length → R ≠ some k → μ'[k]? = μ[k]? ∨ μ'[k]? = some .gone) ∧
   (∀ k,F.contains k = true → k < hh.length → μ'[k]? = ν[t k]?) ∧ (∀ a v,RelV I w μ a v → RelV I' w' μ' a v):=by
 have hlen:μ.length = hh.length:=H.len
 let μ':MM:=(List.range hh.length).map fun k=>match F.contains k with | true=>ν.getD (t k) .gone | false=>μ.getD k .gone
 have gin:∀ k,F.contains k = true → k < hh.length → μ'[k]? = ν[t k]?:=fun k hk hl=>by
  have h1:=ht k hk hl
  simp only [μ',List.getElem?_map,List.getElem?_range hl,Option.map_some,hk,List.getD]
  rw [List.getElem?_eq_getElem h1]; rfl
 have gout:∀ k,F.contains k = false → μ'[k]? = μ[k]?:=fun k hk=>by
  rcases Nat.lt_or_ge k hh.length with hl | hl
  ·simp only [μ',List.getElem?_map,List.getElem?_range hl,Option.map_some,hk,List.getD]
   rw [List.getElem?_eq_getElem (by omega:k < μ.length)]; rfl
  ·rw [List.getElem?_eq_none (by simp [μ']; omega),List.getElem?_eq_none (by omega)]
 have len':μ'.length = hh.length:=by simp [μ']
 have hsub:MM.SubN μ μ':=fun o x hx=>by
  have hlt:o < hh.length:=by rw [← hlen]; exact (List.getElem?_eq_some_iff.1 hx).1
  cases hc:F.contains o with
  | false=>exact .inl (by rw [gout o hc]; exact hx)
  | true =>
   rw [gin o hc hlt]
   rcases hslot o hc hlt with h1 | h1 | ⟨_,h1⟩
   ·exact .inl (h1.trans hx)
   ·exact .inr (.inl h1)
   ·rw [h1] at hx
    cases hx
    have h2:=List.getElem?_eq_getElem (ht o hc hlt)
    rcases hnil o _ hc hlt h1 h2 with h3 | h3 | ⟨l,h3⟩
    ·exact .inl (by rw [h2,h3])
    ·exact .inr (.inl (by rw [h2,h3]))
    ·exact .inr (.inr ⟨rfl,l,by rw [h2,h3]⟩)
 have locin:∀ o l,μ'.loc o = some l → (F.contains o = true ∧ o < hh.length ∧ ν.loc (t o) = some l) ∨ (F.contains o = false ∧ μ.loc o = some l):=fun o l hl=>by
  have h0:=MM.loc_some.1 hl
  have hlt:o < hh.length:=by rw [← len']; exact (List.getElem?_eq_some_iff.1 h0).1
  cases hc:F.contains o with
  | true=>exact .inl ⟨rfl,hlt,MM.loc_some.2 ((gin o hc hlt).symm.trans h0)⟩
  | false=>exact .inr ⟨rfl,MM.loc_some.2 ((gout o hc).symm.trans h0)⟩
 have beside:∀ o l,F.contains o = false → μ.loc o = some l → ¬ ν.owns l.block:=fun o l hc hl hn=>by
  rcases S1.own _ hn with ⟨o',l',h1,h2⟩ | h1
  ·obtain ⟨h3,h4⟩:=maskM_loc h1
   have:=H.apart o' o l' l h4 hl h2
   subst this
   rw [hc] at h3; cases h3
  ·have:=H.size_owned (owns_of hl); omega
 have besideM:∀ o l,F.contains o = false → μ.loc o = some l → ¬ (maskM F 0 μ).owns l.block:=fun o l hc hl ⟨o',l',h1,h2⟩=>by
  obtain ⟨h3,h4⟩:=maskM_loc h1
  have:=H.apart o' o l' l h4 hl h2
  subst this
  rw [hc] at h3; cases h3
 have ownM:∀ b,(maskM F 0 μ).owns b → μ.owns b:=fun b ⟨o,l,h1,h2⟩=>⟨o,l,(maskM_loc h1).2,h2⟩
 have keepI:∀ b,I b → w'.heap[b]? = w.heap[b]?:=fun b hb=>S1.same b (H.imm b hb) (fun h=>H.notI b (ownM b h) hb)
 have hrel:∀ a v,RelV I w μ a v → RelV I' w' μ' a v:=fun a v h=>(h.subN hsub).mono S1.mono keepI
 refine ⟨μ',⟨by rw [updF_len,len'],fun o ob x h1 h2=>?_,fun b hb hI=>?_,fun o o' l l' h1 h2 e=>?_,H1.imm,H1.know⟩,⟨S1.mono,S1.grow,fun b hb hn=>S1.same b hb (fun h=>hn (ownM b h)),fun b hb=>?_,fun b hb=>?_,S1.ext⟩,hsub,gout,fun k hk hR=>?_,gin,hrel⟩
 ·have hlt:o < hh.length:=by rw [← len']; exact (List.getElem?_eq_some_iff.1 h2).1
  rw [updF_get hlt] at h1
  cases hc:F.contains o with
  | true =>
   rw [hc] at h1
   simp only [Option.some.injEq] at h1
   subst h1
   obtain ⟨h3,h4⟩:=hob o hc hlt
   rw [gin o hc hlt] at h2
   refine fit_obj (p:=p) (fun k hk=>?_) (fun _ h=>h) (fun _ _=>rfl) h4 (fun _ _=>rfl) (H1.objs _ _ _ h3 h2)
   obtain ⟨h5,h6,h7⟩:=hp k hk
   rw [gin k h5 h6,h7]
  | false =>
   rw [hc] at h1
   simp only [Option.some.injEq] at h1
   rw [gout o hc] at h2
   have h3:=H.objs o ob x (by rw [← h1]; simp only [List.getD]; rw [List.getElem?_eq_getElem hlt]; rfl) h2
   refine h3.mono S1.mono keepI (fun a v h=>h.subN hsub) (fun l hl=>?_)
   subst hl
   exact S1.same _ (H.size_owned (owns_of (MM.loc_some.2 h2))) (besideM o l hc (MM.loc_some.2 h2))
 ·obtain ⟨o,l,hl,rfl⟩:=hb
  rcases locin o l hl with ⟨_,_,h1⟩ | ⟨hc,h1⟩
  ·exact H1.notI _ (owns_of h1) hI
  ·rcases S1.imm _ hI with h2 | h2 | h2
   ·exact H.notI _ (owns_of h1) h2
   ·exact besideM o l hc h1 h2
   ·have:=H.size_owned (owns_of h1); omega
 ·rcases locin o l h1 with ⟨a1,a2,a3⟩ | ⟨a1,a2⟩ <;> rcases locin o' l' h2 with ⟨b1,b2,b3⟩ | ⟨b1,b2⟩
  ·exact hi o o' a1 a2 b1 b2 (H1.apart _ _ l l' a3 b3 e)
  ·exact absurd (e ▸ owns_of a3) (beside o' l' b1 b2)
  ·exact absurd (e ▸ owns_of b3) (beside o l a1 a2)
  ·exact H.apart o o' l l' a2 b2 e
 ·obtain ⟨o,l,hl,rfl⟩:=hb
  rcases locin o l hl with ⟨_,_,h1⟩ | ⟨_,h1⟩
  ·exact (S1.own _ (owns_of h1)).imp (ownM _) id
  ·exact .inl (owns_of h1)
 ·exact (S1.imm b hb).imp id (Or.imp (ownM b) id)
 ·cases hc:F.contains k with
  | false=>exact .inl (gout k hc)
  | true =>
   rw [gin k hc hk]
   rcases hslot k hc hk with h1 | h1 | ⟨h1,_⟩
   ·exact .inl h1
   ·exact .inr h1
   ·exact absurd h1 hR
theorem contains_and {F:List Nat} {N k:Nat} (h:(F.contains k && Nat.blt k N) = true):F.contains k = true ∧ k < N:=by
 rw [Bool.and_eq_true] at h
 exact ⟨h.1,Nat.le_of_ble_eq_true h.2⟩
theorem maskF_same {F:List Nat} {h hh:List AObj} (hl:hh.length = h.length) (hag:∀ k,F.contains k = true → hh[k]? = h[k]?):maskF F 0 hh = maskF F 0 h:=by
 apply List.ext_getElem?
 intro k
 rw [maskF_get,maskF_get,Nat.zero_add]
 cases hc:F.contains k with
 | true=>rw [hag k hc]
 | false =>
  rcases Nat.lt_or_ge k h.length with h1 | h1
  ·rw [List.getElem?_eq_getElem h1,List.getElem?_eq_getElem (by omega)]; rfl
  ·rw [List.getElem?_eq_none h1,List.getElem?_eq_none (by omega)]
theorem Rel.mask [KN:Know] {I:Nat → Prop} {μ:MM} {o:Oper} {s:St} {a:Act} {w:World} {hh:List AObj} (F:List Nat) (R:Rel I μ (restrictH o s hh) a w):Rel I (maskM F 0 μ) (restrictH o s (maskF F 0 hh)) a w:=by
 have hsub:=maskM_sub F μ
 refine ⟨fun t=>(R.tmps t).sub hsub,R.size,R.defers,⟨?_,fun k ob x h1 h2=>?_,fun b hb=>?_,fun k k' l l' h1 h2 e=>R.heap.apart k k' l l' (maskM_loc h1).2 (maskM_loc h2).2 e,R.heap.imm,R.heap.know⟩⟩
 ·show (maskM F 0 μ).length = (maskF F 0 hh).length
  rw [maskM_len,maskF_len]; exact R.heap.len
 ·rw [show (restrictH o s (maskF F 0 hh)).h = maskF F 0 hh from rfl,maskF_get,Nat.zero_add] at h1
  rw [maskM_get,Nat.zero_add] at h2
  cases hk:hh[k]? with
  | none=>rw [hk] at h1; cases h1
  | some ob0 =>
   cases hm:μ[k]? with
   | none=>rw [hm] at h2; cases h2
   | some x0 =>
    rw [hk] at h1
    rw [hm] at h2
    cases hc:F.contains k with
    | true =>
     rw [hc] at h1 h2
     cases h1; cases h2
     exact (R.heap.objs k _ _ hk hm).mono (fun _ h=>h) (fun _ _=>rfl) (fun _ _ h=>h.sub hsub) (fun _ _=>rfl)
    | false =>
     rw [hc] at h1 h2
     cases h1; cases h2
     exact .dead
 ·obtain ⟨k,l,hl,rfl⟩:=hb
  exact R.heap.notI _ (owns_of (maskM_loc hl).2)
theorem OpF.plain [KN:Know] {P:Program} {o:Oper} {s:St} {F:List Nat} {h h':List AObj} {av:AV} (hM:MO P o s (maskF F 0 h) av (maskF F 0 h')) (hl:h'.length = h.length)
  (hA:fit1 (fun k=>F.contains k && Nat.blt k h.length) av = true) (hO:(maskF F 0 h').all (fitO (fun k=>F.contains k && Nat.blt k h.length)) = true):OpF P o s F none h av h':=by
 intro hh hhl hag I μ a w R _ next Q hk
 have hmask:=maskF_same hhl hag
 have R0:=R.mask F
 rw [hmask] at R0
 refine hM I (maskM F 0 μ) a w R0 (by rw [R0.heap.len]; exact Nat.le_refl _) next Q (fun I' ν st' v w' e R1 S1 p1=>?_)
 subst e
 have H1:RelH I' ν (maskF F 0 h') w':=R1.heap
 have hν:ν.length = h.length:=by rw [H1.len,maskF_len,hl]
 have hmem:∀ k,F.contains k = true → k < h.length → (maskF F 0 h')[k]? = some (h'.getD k .dead):=fun k hc hk=>by
  rw [maskF_get,Nat.zero_add,hc]
  simp only [List.getD]
  rw [List.getElem?_eq_getElem (by omega:k < h'.length)]; rfl
 have hst:∀ k,F.contains k = true → k < h.length → ν[k]? = μ[k]? ∨ ν[k]? = some .gone:=fun k hc hk=>by
  rw [← maskM_in (μ:=μ) hc]
  exact p1.2 k (by rw [maskF_len]; exact hk)
 obtain ⟨μ',b1,b2,b3,b4,b5,b6,b7⟩:=OpF.back (h':=h') (R:=none) (p:=fun k=>F.contains k && Nat.blt k h.length) id R.heap H1 S1 (fun k _ h1=>by show k < _; rw [hν]; have:(restrictH o s hh).h.length = hh.length:=rfl; omega) (fun _ _ _ _ _ _ h=>h)
  (fun k hk=>⟨(contains_and hk).1,by have:=(contains_and hk).2; show k < hh.length; omega,rfl⟩) (fun k hc h1=>by
   have h1':k < hh.length:=h1
   have:=hmem k hc (by omega)
   exact ⟨this,List.all_eq_true.1 hO _ (List.mem_of_getElem? this)⟩) (fun k hc h1=>by
   have h1':k < hh.length:=h1
   exact (hst k hc (by omega)).imp id .inl) (fun k x hc h1 h2 h3=>by
   have h1':k < hh.length:=h1
   have h3':ν[k]? = some x:=h3
   rcases hst k hc (by omega) with h4 | h4
   ·rw [h4,h2] at h3'; cases h3'; exact .inl rfl
   ·rw [h4] at h3'; cases h3'; exact .inr (.inl rfl))
 refine hk I' μ' v w' (fun k hd hkn=>?_) b1 b2 b3 b4 (fun k h1 h2=>b5 k (by show k < hh.length; omega) h2)
 have hv:=R1.tmps k
 have hget:({ (restrictH o s (maskF F 0 h)).put o.dst av with h:=maskF F 0 h' }:St).get k = ((restrictH o s (maskF F 0 h)).put o.dst av).get k:=rfl
 rw [hget,put_get,if_pos ⟨hd,by exact hkn⟩] at hv
 have hlt:k < a.tmps.size:=by rw [R.size]; exact hkn
 rw [hd,show (a.put (some k) v).tmps.getD k Go.undef = v by simp [Act.put,Array.getD,hlt]] at hv
 exact fit1_rel (p:=fun k=>F.contains k && Nat.blt k h.length) (fun q hq=>b6 q (contains_and hq).1 (by have:=(contains_and hq).2; show q < hh.length; omega)) hA hv
theorem new_rel {I:Nat → Prop} {w:World} {ν μ':MM} {N r:Nat} (h:μ'[r]? = ν[N]?) {av0 av:AV} {v:Value} (hav:(∃ j,av0 = .ptr N j ∧ av = .ptr r j) ∨ (∃ a b,av0 = .ref N a b ∧ av = .ref r a b)) (hv:RelV I w ν av0 v):RelV I w μ' av v:=by
 have hloc:∀ l,ν.loc N = some l → μ'.loc r = some l:=fun l hl=>MM.loc_some.2 (h.trans (MM.loc_some.1 hl))
 rcases hav with ⟨j,rfl,rfl⟩ | ⟨a,b,rfl,rfl⟩
 ·cases hv with
  | ptrX _ _ _ _ hl=>exact .ptrX _ r j _ (h.trans hl)
  | ptr _ _ _ l hl=>exact .ptr _ r j l (hloc l hl)
 ·cases hv with
  | ref _ _ _ _ cap l hl hlen hcap=>exact .ref _ r a b cap l (hloc l hl) hlen hcap
  | ref0 _ _ hl=>exact .ref0 _ r (h.trans hl)
  | refE _ _ _ l q hl=>exact .refE _ r a l q (hloc l hl)
  | refX _ _ _ _ _ hl=>exact .refX _ r a b _ (h.trans hl)
end Go.Q
namespace Go.Q
open Go
def HSv (H:Nat → List AObj) (W:Nat → List Nat) (S:List Nat):Nat → Nat → Option AObj
 | 0,k=>(H 0)[k]?
 | j + 1,k=>if j ∈ S ∧ (W j).contains k = true then (H (j + 1))[k]? else HSv H W S j k
theorem HSv_stay {H:Nat → List AObj} {W:Nat → List Nat} (S:List Nat) (k:Nat) (i:Nat):∀ j,i ≤ j → (∀ q,i ≤ q → q < j → q ∈ S → (W q).contains k = false) → HSv H W S j k = HSv H W S i k:=by
 intro j
 induction j with
 | zero=>intro h _; rw [show i = 0 by omega]
 | succ j ih =>
  intro h hq
  by_cases he:i = j + 1
  ·rw [he]
  ·simp only [HSv]
   rw [if_neg (fun h2=>by rw [hq j (by omega) (by omega) h2.1] at h2; cases h2.2),ih (by omega) (fun q h1 h2=>hq q h1 (by omega))]
theorem HSv_same {H:Nat → List AObj} {W:Nat → List Nat} (S S':List Nat) (k:Nat):∀ i,(∀ q,q < i → (W q).contains k = true → (q ∈ S ↔ q ∈ S')) → HSv H W S i k = HSv H W S' i k:=by
 intro i
 induction i with
 | zero=>intro _; rfl
 | succ i ih =>
  intro h
  simp only [HSv]
  rw [ih (fun q hq=>h q (by omega))]
  by_cases hd:(W i).contains k = true
  ·have:=h i (by omega) hd
   by_cases hi:i ∈ S
   ·rw [if_pos ⟨hi,hd⟩,if_pos ⟨this.1 hi,hd⟩]
   ·rw [if_neg (fun h=>hi h.1),if_neg (fun h=>hi (this.2 h.1))]
  ·rw [if_neg (fun h=>hd h.2),if_neg (fun h=>hd h.2)]
def HSl (H:Nat → List AObj) (W:Nat → List Nat) (S:List Nat) (m N:Nat):List AObj:=(List.range N).map fun k=>(HSv H W S m k).getD .dead
theorem HSl_len {H:Nat → List AObj} {W:Nat → List Nat} {S:List Nat} {m N:Nat}:(HSl H W S m N).length = N:=by simp [HSl]
theorem HSl_get {H:Nat → List AObj} {W:Nat → List Nat} {S:List Nat} {m N k:Nat} (hk:k < N):(HSl H W S m N)[k]? = some ((HSv H W S m k).getD .dead):=by simp [HSl,hk]
structure TraceF [KN:Know] (P:Program) (ops:Array Oper) (B:Nat → List Nat) (st0:St) (tr:List AV) (F W:Nat → List Nat) (Rs:Nat → Option Nat) (n0:Nat) (H:Nat → List AObj) (sF:St):Prop where
 h0:H 0 = st0.h
 len:∀ i,i ≤ ops.size → (H i).length = st0.h.length
 same:∀ i k,i < ops.size → (W i).contains k = false → (H (i + 1))[k]? = (H i)[k]?
 sub:∀ i k,i < ops.size → (W i).contains k = true → (F i).contains k = true
 order:∀ i j k,i < j → j < ops.size → ((W i).contains k = true ∧ (F j).contains k = true) ∨ ((F i).contains k = true ∧ (W j).contains k = true) → i ∈ B j
 own:∀ i m r,i < m → m < ops.size → Rs m = some r → (F i).contains r = false
 new:∀ m r,m < ops.size → Rs m = some r → n0 ≤ r ∧ r < st0.h.length ∧ (W m).contains r = true
 one:∀ m m' r,m < m' → m' < ops.size → Rs m = some r → Rs m' ≠ some r
 seq:∀ i o,ops.toList[i]? = some o → seqSt ops.toList tr (i + 1) st0 = (seqSt ops.toList tr i st0).put o.dst (tr.getD i .undef)
 get:∀ d,sF.get d = (seqSt ops.toList tr ops.toList.length st0).get d
 n:sF.n = st0.n
 h:sF.h = H ops.size
 ops:∀ i o,ops.toList[i]? = some o → ∃ s:St,s.n = (seqSt ops.toList tr i st0).n ∧ (∀ d,s.get d = (seqSt ops.toList tr i st0).get d) ∧
  match o.guard with
   | none=>OpF P o s (F i) (Rs i) (H i) (tr.getD i .undef) (H (i + 1))
   | some (j,want)=>∃ d,(ops[j]?).bind (·.dst) = some d ∧ ((∃ b,s.get d = .lit (.bool b) ∧ ((b = want ∧ OpF P o s (F i) (Rs i) (H i) (tr.getD i .undef) (H (i + 1))) ∨ (b ≠ want ∧ tr.getD i .undef = .tup [] ∧ H (i + 1) = H i))) ∨ (s.get d = .tup [] ∧ tr.getD i .undef = .tup [] ∧ H (i + 1) = H i))
theorem TraceF.text [KN:Know] {P:Program} {ops:Array Oper} {B:Nat → List Nat} {st0:St} {tr:List AV} {F W:Nat → List Nat} {Rs:Nat → Option Nat} {n0:Nat} {H:Nat → List AObj} {sF:St} (T:TraceF P ops B st0 tr F W Rs n0 H sF) (k:Nat):∀ i,i ≤ ops.size → HSv H W (List.range ops.size) i k = (H i)[k]?:=by
 intro i
 induction i with
 | zero=>intro _; rfl
 | succ i ih =>
  intro hi
  simp only [HSv]
  cases hc:(W i).contains k with
  | true=>rw [if_pos ⟨by simp; omega,rfl⟩]
  | false=>rw [if_neg (fun h=>by cases h.2),ih (by omega),T.same i k (by omega) hc]
theorem RelH.hold [KN:Know] {I:Nat → Prop} {μ:MM} {h:List AObj} {w:World} (H:RelH I μ h w) (k:Nat):RelH I (μ ++ List.replicate k Slot.nil) (h ++ List.replicate k (.arr 1 [])) w:=by
 have hl:∀ o l,MM.loc (μ ++ List.replicate k Slot.nil) o = some l → μ.loc o = some l:=fun o l h0=>by
  have h1:=MM.loc_some.1 h0
  rcases Nat.lt_or_ge o μ.length with h2 | h2
  ·rw [List.getElem?_append_left h2] at h1; exact MM.loc_some.2 h1
  ·rw [List.getElem?_append_right h2,List.getElem?_replicate] at h1
   split at h1 <;> cases h1
 refine ⟨by simp [H.len],fun o ob x h1 h2=>?_,fun b ⟨o,l,h1,h2⟩=>H.notI b ⟨o,l,hl o l h1,h2⟩,fun o o' l l' h1 h2 e=>H.apart o o' l l' (hl o l h1) (hl o' l' h2) e,H.imm,H.know⟩
 rcases Nat.lt_or_ge o μ.length with h3 | h3
 ·rw [List.getElem?_append_left h3] at h2
  rw [List.getElem?_append_left (by rw [← H.len]; exact h3)] at h1
  exact (H.objs o ob x h1 h2).mono (fun _ h=>h) (fun _ _=>rfl) (fun _ _ h=>h.sub (MM.sub_append _ _)) (fun _ _=>rfl)
 ·rw [List.getElem?_append_right h3,List.getElem?_replicate] at h2
  rw [List.getElem?_append_right (by rw [← H.len]; exact h3),List.getElem?_replicate] at h1
  split at h1
  ·split at h2
   ·cases h1; cases h2; exact .arr0 1
   ·cases h2
  ·cases h1
theorem hold_owns {μ:MM} {k b:Nat}:MM.owns (μ ++ List.replicate k Slot.nil) b → μ.owns b:=fun ⟨o,l,h0,h2⟩=>by
 have h1:=MM.loc_some.1 h0
 rcases Nat.lt_or_ge o μ.length with h3 | h3
 ·rw [List.getElem?_append_left h3] at h1; exact ⟨o,l,MM.loc_some.2 h1,h2⟩
 ·rw [List.getElem?_append_right h3,List.getElem?_replicate] at h1
  split at h1 <;> cases h1
theorem SWP.drawF [KN:Know] {P:Program} {n id:Nat} {ops:Array Oper} {Q:Exit → St → Prop} {st sF:St} {tr:List AV} {F W:Nat → List Nat} {Rs:Nat → Option Nat} {H:Nat → List AObj} (k:Nat) (hm:P.follows .mixedOrders = true) (hd:drawOk ops = true)
  (ht:TraceF P ops (fun i=>(befores ops.toList []).getD i []) ⟨st.n,st.ts,st.h ++ List.replicate k (.arr 1 [])⟩ tr F W Rs st.h.length H sF) (hQ:Q .normal sF) :
  SWP P n (.region id ops true) Q st:=by
 intro I μ a w R hn
 generalize hst0:(⟨st.n,st.ts,st.h ++ List.replicate k (.arr 1 [])⟩:St) = st0 at ht
 have hst0n:st0.n = st.n:=by rw [← hst0]
 have hst0g:∀ t,st0.get t = st.get t:=fun t=>by rw [← hst0]; rfl
 have hst0h:st0.h = st.h ++ List.replicate k (.arr 1 []):=by rw [← hst0]
 generalize hN:st0.h.length = N at ht
 have D:=drawOk_ok hd
 have hAt:=ht.ops
 have hseq:=seq_get st0 tr ht.seq
 have hlen:ops.toList.length = ops.size:=by simp
 refine wp_region_draw (fun t=>?_)
 have O:=schedule_order D hm t
 generalize Region.schedule (P.follows .mixedOrders) ops t = π at O
 have hB:∀ p i,π[p]? = some i → ∀ k ∈ (befores ops.toList []).getD i [],k ∈ π.take p:=fun p i hp=>O.before D i p hp
 have clash_of:∀ i k,i < ops.size → k < ops.size → i < k → ∀ t,dstAt ops k = some t → (dstAt ops i = some t ∨ (∀ o,ops.toList[i]? = some o → t ∈ readsOf ops o)) → i ∈ (befores ops.toList []).getD k []:=by
  intro i k hi hk hik t hdk hor
  have ho:ops.toList[i]? = some ops[i]:=by rw [Array.getElem?_toList,Array.getElem?_eq_getElem hi]
  have hp:ops.toList[k]? = some ops[k]:=by rw [Array.getElem?_toList,Array.getElem?_eq_getElem hk]
  have hdk':ops[k].dst = some t:=by simpa [dstAt,Array.getElem?_eq_getElem hk] using hdk
  refine D.clash k i _ _ hik hp ho ?_
  unfold clash
  rw [hdk']
  rcases hor with h1 | h1
  ·have:ops[i].dst = some t:=by simpa [dstAt,Array.getElem?_eq_getElem hi] using h1
   rw [this]; simp
  ·have:=h1 _ ho
   simp [this]
 have clash_of2:∀ i k,i < ops.size → k < ops.size → k < i → ∀ t,dstAt ops k = some t → (dstAt ops i = some t ∨ (∀ o,ops.toList[i]? = some o → t ∈ readsOf ops o)) → k ∈ (befores ops.toList []).getD i []:=by
  intro i k hi hk hik t hdk hor
  have ho:ops.toList[i]? = some ops[i]:=by rw [Array.getElem?_toList,Array.getElem?_eq_getElem hi]
  have hp:ops.toList[k]? = some ops[k]:=by rw [Array.getElem?_toList,Array.getElem?_eq_getElem hk]
  have hdk':ops[k].dst = some t:=by simpa [dstAt,Array.getElem?_eq_getElem hk] using hdk
  refine D.clash i k _ _ hik ho hp ?_
  unfold clash
  rw [hdk']
  rcases hor with h1 | h1
  ·have:ops[i].dst = some t:=by simpa [dstAt,Array.getElem?_eq_getElem hi] using h1
   rw [this]; simp
  ·have:=h1 _ ho
   simp [this]
 have dst_lt:∀ k t,dstAt ops k = some t → k < ops.size:=fun k t h=>by
  unfold dstAt at h
  rcases Nat.lt_or_ge k ops.size with h1 | h1
  ·exact h1
  ·rw [Array.getElem?_eq_none h1] at h; cases h
 let w0:World:={ w with drawn:=w.drawn + 1 }
 have hw0:w0.heap = w.heap:=rfl
 have hlenH:∀ i,i ≤ ops.size → (H i).length = N:=fun i hi=>by rw [ht.len i hi,hN]
 have hn0:n ≤ st.h.length:=by rw [← R.heap.len]; exact hn
 have hnN:st.h.length ≤ N:=by rw [← hN,hst0h]; simp
 have main:∀ m p,p + m = ops.size → ∀ (I':Nat → Prop) (μ':MM) (a':Act) (w':World),(∀ t,RelV I' w' μ' (GS ops st0 tr (π.take p) ops.size t) (a'.tmps.getD t Go.undef)) → a'.tmps.size = st0.n → a'.defers = [] → RelH I' μ' (HSl H W (π.take p) ops.size N) w' → (∀ m r,m < ops.size → m ∉ π.take p → Rs m = some r → μ'[r]? = some .nil) → Step I μ w I' μ' w' → Pre n μ μ' →
   wpOps P ops (Post n I μ w Q) (π.drop p) a' w':=by
  intro m
  induction m with
  | zero =>
   intro p hp I' μ' a' w' hT hsz hdf hH hnil hS hpre
   have hpl:p = π.length:=by rw [O.len]; omega
   have hall:∀ x,x < ops.size → x ∈ π:=by
    intro x hx
    by_cases hm:x ∈ π
    ·exact hm
    ·exfalso
     have hlen:=nodup_le (l:=x :: π) (acc:=List.range ops.size) (List.nodup_cons.2 ⟨hm,O.nodup⟩) (fun y hy=>by
      rcases List.mem_cons.1 hy with rfl | hy
      ·simpa using hx
      ·simpa using O.lt y hy)
     simp [O.len] at hlen
     omega
   have hend:H ops.size = HSl H W (π.take p) ops.size N:=by
    apply List.ext_getElem?
    intro q
    rcases Nat.lt_or_ge q N with h1 | h1
    ·rw [HSl_get h1,HSv_same (π.take p) (List.range ops.size) q ops.size (fun j hj _=>⟨fun _=>by simpa using hj,fun _=>by rw [hpl,List.take_length]; exact hall j hj⟩),ht.text q _ (Nat.le_refl _)]
     rw [List.getElem?_eq_getElem (by rw [hlenH _ (Nat.le_refl _)]; exact h1)]; rfl
    ·rw [List.getElem?_eq_none (by rw [hlenH _ (Nat.le_refl _)]; exact h1),List.getElem?_eq_none (by rw [HSl_len]; exact h1)]
   rw [hpl,List.drop_length]
   refine ⟨I',μ',sF,hQ,⟨fun t=>?_,by rw [hsz,ht.n],hdf,?_⟩,hS,hpre⟩
   ·have h1:=hT t
    rw [hpl,List.take_length] at h1
    rw [GS_same (ops:=ops) st0 tr π (List.range ops.size) t ops.size (fun k hk _=>⟨fun _=>by simpa using hk,fun _=>?_⟩)] at h1
    ·rw [ht.get t,hlen]
     have:=(hseq ops.size (Nat.le_refl _)).2.2 t
     rw [this]
     exact h1
    ·exact hall k (by simpa using hk)
   ·rw [ht.h,hend]; exact hH
  | succ m ih =>
   intro p hp I' μ' a' w' hT hsz hdf hH hnil hS hpre
   have hplt:p < π.length:=by rw [O.len]; omega
   have hpi:π[p]? = some π[p]:=List.getElem?_eq_getElem hplt
   rw [List.drop_eq_getElem_cons hplt]
   generalize hi:π[p] = i at hpi
   have hilt:i < ops.size:=O.lt i (List.mem_of_getElem? hpi)
   have ho:ops.toList[i]? = some ops[i]:=by rw [Array.getElem?_toList,Array.getElem?_eq_getElem hilt]
   have hnot:i ∉ π.take p:=by
    intro hm
    obtain ⟨q,hq,hq2⟩:=List.getElem_of_mem hm
    simp only [List.length_take] at hq
    rw [List.getElem_take] at hq2
    have:q = p:=(List.getElem?_inj (by omega) O.nodup).1 (by rw [List.getElem?_eq_getElem (by omega),hq2,hpi])
    omega
   have hsucc:π.take (p + 1) = π.take p ++ [i]:=by rw [List.take_succ_eq_append_getElem hplt,hi]
   have later:∀ k t,i < k → k ∈ π.take p → dstAt ops k = some t → (dstAt ops i = some t ∨ (∀ o,ops.toList[i]? = some o → t ∈ readsOf ops o)) → False:=by
    intro k t hik hk hdk hor
    have hin:=clash_of i k hilt (dst_lt k t hdk) hik t hdk hor
    obtain ⟨q,hq,hq2⟩:=List.getElem_of_mem hk
    simp only [List.length_take] at hq
    rw [List.getElem_take] at hq2
    have h3:=hB q k (by rw [List.getElem?_eq_getElem (by omega),hq2]) i hin
    exact hnot (List.mem_of_mem_take (by
     have:i ∈ (π.take p).take q:=by rw [List.take_take,Nat.min_eq_left (by omega)]; exact h3
     exact this))
   have reads:∀ t,t ∈ readsOf ops ops[i] → GS ops st0 tr (π.take p) ops.size t = (seqSt ops.toList tr i st0).get t:=by
    intro t ht
    have hr:∀ o,ops.toList[i]? = some o → t ∈ readsOf ops o:=fun o h=>by rw [ho] at h; cases h; exact ht
    rw [GS_stay st0 tr (π.take p) t i ops.size (by omega) (fun k h1 h2 h3 h4=>by
     rcases Nat.lt_or_ge i k with h5 | h5
     ·exact later k t h5 h3 h4 (.inr hr)
     ·have:k = i:=by omega
      subst this; exact hnot h3)]
    rw [(hseq i (by omega)).2.2 t]
    refine GS_same st0 tr _ _ t i (fun k hk hdk=>⟨fun _=>by simp; omega,fun _=>?_⟩)
    exact hB p i hpi k (clash_of2 i k hilt (by omega) hk t hdk (.inr hr))
   have behind:∀ t,GS ops st0 tr (π.take (p + 1)) ops.size t = if dstAt ops i = some t ∧ t < st0.n then tr.getD i .undef else GS ops st0 tr (π.take p) ops.size t:=by
    intro t
    by_cases hc:dstAt ops i = some t
    ·rw [GS_stay st0 tr (π.take (p + 1)) t (i + 1) ops.size (by omega) (fun k h1 h2 h3 h4=>by
      rw [hsucc] at h3
      rcases List.mem_append.1 h3 with h5 | h5
      ·exact later k t (by omega) h5 h4 (.inl hc)
      ·simp at h5; omega)]
     simp only [GS]
     by_cases hlt:t < st0.n
     ·rw [if_pos ⟨by rw [hsucc]; simp,hc,hlt⟩,if_pos ⟨hc,hlt⟩]
     ·rw [if_neg (fun h=>hlt h.2.2),if_neg (fun h=>hlt h.2)]
      rw [GS_stay st0 tr (π.take p) t i ops.size (by omega) (fun k h1 h2 h3 h4=>by
       rcases Nat.lt_or_ge i k with h5 | h5
       ·exact later k t h5 h3 h4 (.inl hc)
       ·have:k = i:=by omega
        subst this; exact hnot h3)]
      refine GS_same st0 tr _ _ t i (fun k hk _=>?_)
      rw [hsucc]
      constructor
      ·intro h
       rcases List.mem_append.1 h with h5 | h5
       ·exact h5
       ·simp at h5; omega
      ·intro h; simp [h]
    ·rw [if_neg (fun h=>hc h.1)]
     refine GS_same st0 tr _ _ t ops.size (fun k hk hdk=>?_)
     rw [hsucc]
     constructor
     ·intro h
      rcases List.mem_append.1 h with h5 | h5
      ·exact h5
      ·simp only [List.mem_singleton] at h5; subst h5; exact absurd hdk hc
     ·intro h; simp [h]
   obtain ⟨s,hsn0,hsg,hop⟩:=hAt i _ ho
   have hsn:s.n = st0.n:=by rw [hsn0,(hseq i (by omega)).1]
   have hdst:dstAt ops i = ops[i].dst:=by simp [dstAt,Array.getElem?_eq_getElem hilt]
   have hbefore:∀ m,m ∈ (befores ops.toList []).getD i [] → m ∈ π.take p:=fun m hmm=>hB p i hpi m hmm
   have hnotbef:∀ m,m ∈ π.take p → i ∉ (befores ops.toList []).getD m []:=by
    intro m hmm hin
    obtain ⟨q,hq,hq2⟩:=List.getElem_of_mem hmm
    simp only [List.length_take] at hq
    rw [List.getElem_take] at hq2
    have h3:=hB q m (by rw [List.getElem?_eq_getElem (by omega),hq2]) i hin
    exact hnot (List.mem_of_mem_take (by
     have:i ∈ (π.take p).take q:=by rw [List.take_take,Nat.min_eq_left (by omega)]; exact h3
     exact this))
   have hltS:∀ m,m ∈ π.take p → m < ops.size:=fun m hmm=>O.lt m (List.mem_of_mem_take hmm)
   have agree:∀ q,(F i).contains q = true → (HSl H W (π.take p) ops.size N)[q]? = (H i)[q]?:=by
    intro q hq
    rcases Nat.lt_or_ge q N with h1 | h1
    ·rw [HSl_get h1,HSv_stay (π.take p) q i ops.size (by omega) (fun j h2 h3 h4=>by
      cases hc:(W j).contains q with
      | false=>rfl
      | true =>
       rcases Nat.lt_or_ge i j with h5 | h5
       ·exact absurd (ht.order i j q h5 h3 (.inr ⟨hq,hc⟩)) (hnotbef j h4)
       ·have:j = i:=by omega
        subst this; exact absurd h4 hnot),
      HSv_same (π.take p) (List.range ops.size) q i (fun j hj hc=>⟨fun _=>by simp; omega,fun _=>hbefore j (ht.order j i q hj hilt (.inl ⟨hc,hq⟩))⟩),ht.text q i (by omega)]
     rw [List.getElem?_eq_getElem (by rw [hlenH i (by omega)]; exact h1)]; rfl
    ·rw [List.getElem?_eq_none (by rw [HSl_len]; exact h1),List.getElem?_eq_none (by rw [hlenH i (by omega)]; exact h1)]
   have step:∀ q,HSv H W (π.take (p + 1)) ops.size q = if (W i).contains q = true then (H (i + 1))[q]? else HSv H W (π.take p) ops.size q:=by
    intro q
    cases hc:(W i).contains q with
    | true =>
     rw [if_pos rfl,HSv_stay (π.take (p + 1)) q (i + 1) ops.size (by omega) (fun j h1 h2 h3=>by
      cases hcj:(W j).contains q with
      | false=>rfl
      | true =>
       rw [hsucc] at h3
       rcases List.mem_append.1 h3 with h5 | h5
       ·exact absurd (ht.order i j q (by omega) h2 (.inr ⟨ht.sub i q hilt hc,hcj⟩)) (hnotbef j h5)
       ·simp at h5; omega)]
     simp only [HSv]
     rw [if_pos ⟨by rw [hsucc]; simp,hc⟩]
    | false =>
     rw [if_neg (fun h=>by cases h)]
     refine HSv_same _ _ q ops.size (fun j hj hcj=>?_)
     rw [hsucc]
     constructor
     ·intro h
      rcases List.mem_append.1 h with h5 | h5
      ·exact h5
      ·simp only [List.mem_singleton] at h5; subst h5; rw [hc] at hcj; cases hcj
     ·intro h; simp [h]
   have stepL:updF (F i) (HSl H W (π.take p) ops.size N) (H (i + 1)) = HSl H W (π.take (p + 1)) ops.size N:=by
    apply List.ext_getElem?
    intro q
    rcases Nat.lt_or_ge q N with h1 | h1
    ·rw [updF_get (by rw [HSl_len]; exact h1),HSl_get h1,step q]
     have h2:(H (i + 1))[q]? = some ((H (i + 1)).getD q .dead):=by
      simp only [List.getD]
      rw [List.getElem?_eq_getElem (by rw [hlenH _ (by omega)]; exact h1)]; rfl
     cases hc:(W i).contains q with
     | true=>rw [if_pos rfl,ht.sub i q hilt hc,h2]; rfl
     | false =>
      rw [if_neg (fun h=>by cases h)]
      cases hf:(F i).contains q with
      | true =>
       have h3:=agree q hf
       rw [HSl_get h1,← ht.same i q hilt hc,h2] at h3
       rw [← Option.some.inj h3]
      | false=>simp only [List.getD]; rw [HSl_get h1]; rfl
    ·rw [List.getElem?_eq_none (by rw [updF_len,HSl_len]; exact h1),List.getElem?_eq_none (by rw [HSl_len]; exact h1)]
   have idle:H (i + 1) = H i → HSl H W (π.take (p + 1)) ops.size N = HSl H W (π.take p) ops.size N:=by
    intro he
    apply List.ext_getElem?
    intro q
    rcases Nat.lt_or_ge q N with h1 | h1
    ·rw [HSl_get h1,HSl_get h1,step q]
     cases hc:(W i).contains q with
     | false=>rw [if_neg (fun h=>by cases h)]
     | true =>
      rw [if_pos rfl,he,← agree q (ht.sub i q hilt hc),HSl_get h1]; rfl
    ·rw [List.getElem?_eq_none (by rw [HSl_len]; exact h1),List.getElem?_eq_none (by rw [HSl_len]; exact h1)]
   have cont:∀ (J:Nat → Prop) (ν:MM) (v:Value) (w2:World),(∀ k,ops[i].dst = some k → k < st0.n → RelV J w2 ν (tr.getD i .undef) v) → (∀ a v,RelV I' w' μ' a v → RelV J w2 ν a v) → RelH J ν (HSl H W (π.take (p + 1)) ops.size N) w2 → (∀ m r,m < ops.size → m ∉ π.take (p + 1) → Rs m = some r → ν[r]? = some .nil) → Step I' μ' w' J ν w2 → Pre n μ' ν → wpOps P ops (Post n I μ w Q) (π.drop (p + 1)) (a'.put ops[i].dst v) w2:=by
    intro J ν v w2 hv hold' hH2 hnil2 S2 p2
    refine ih (p + 1) (by omega) J ν _ w2 (fun t=>?_) ?_ (by rw [act_put_defers]; exact hdf) hH2 hnil2 (hS.trans S2) (hpre.trans p2)
    ·rw [behind t,hdst]
     have hold:=hold' _ _ (hT t)
     cases hdd:ops[i].dst with
     | none=>simpa [Act.put,hdd] using hold
     | some k =>
      simp only [Act.put,Option.some.injEq]
      by_cases hkt:k = t
      ·subst hkt
       by_cases hlt:k < st0.n
       ·rw [if_pos ⟨rfl,hlt⟩]
        have hlt':k < a'.tmps.size:=by rw [hsz]; exact hlt
        rw [show (a'.tmps.setIfInBounds k v).getD k Go.undef = v by simp [Array.getD,hlt']]
        exact hv k hdd hlt
       ·rw [if_neg (fun h=>hlt h.2)]
        have:(a'.tmps.setIfInBounds k v).getD k Go.undef = a'.tmps.getD k Go.undef:=by
         have hge:¬ k < a'.tmps.size:=by rw [hsz]; exact hlt
         simp [Array.getD,hge]
        rw [this]; exact hold
      ·rw [if_neg (fun h=>hkt h.1)]
       have:(a'.tmps.setIfInBounds k v).getD t Go.undef = a'.tmps.getD t Go.undef:=by
        by_cases hlt:t < a'.tmps.size
        ·simp [Array.getD,hlt]; rw [Array.getElem_setIfInBounds_ne (by simpa using hlt) hkt]
        ·simp [Array.getD,hlt]
       rw [this]; exact hold
    ·cases hdd:ops[i].dst <;> simp [Act.put,hsz]
   have skip:tr.getD i .undef = .tup [] → H (i + 1) = H i → wpOps P ops (Post n I μ w Q) (π.drop (p + 1)) (a'.put ops[i].dst Go.undef) w':=fun hav he =>
    cont I' μ' Go.undef w' (fun _ _ _=>by rw [hav]; exact rel_tup0) (fun _ _ h=>h) (by rw [idle he]; exact hH) (fun m r h1 h2 h3=>hnil m r h1 (fun h=>h2 (by rw [hsucc]; simp [h])) h3) (Step.refl _ _ _) (Pre.refl _ _ hpre.1)
   have runop:OpF P ops[i] s (F i) (Rs i) (H i) (tr.getD i .undef) (H (i + 1)) → ops[i].wp P a' w' (wpOps P ops (Post n I μ w Q) (π.drop (p + 1))) (Post n I μ w Q):=by
    intro hdo
    have hrestr:Rel I' μ' (restrictH ops[i] s (HSl H W (π.take p) ops.size N)) a' w':=by
     refine ⟨fun t=>?_,by simp only [restrictH]; rw [hsz,hsn],hdf,hH⟩
     have hlook:∀ ts:List Nat,look t (ts.map fun t=>(t,s.get t)) = .undef ∨ (t ∈ ts ∧ look t (ts.map fun t=>(t,s.get t)) = s.get t):=by
      intro ts
      induction ts with
      | nil=>exact .inl rfl
      | cons x xs ihx =>
       simp only [List.map_cons,look]
       by_cases hx:x = t
       ·subst hx; rw [if_pos rfl]; exact .inr ⟨by simp,rfl⟩
       ·rw [if_neg hx]
        rcases ihx with h1 | ⟨h1,h2⟩
        ·exact .inl h1
        ·exact .inr ⟨by simp [h1],h2⟩
     show RelV I' w' μ' (if t < s.n then look t ((tmpsOf ops[i]).map fun t=>(t,s.get t)) else .undef) _
     by_cases htn:t < s.n
     ·rw [if_pos htn]
      rcases hlook (tmpsOf ops[i]) with h1 | ⟨h1,h2⟩
      ·rw [h1]; exact .undef _ _
      ·rw [h2]
       have h3:=reads t (by unfold readsOf; exact List.mem_append.2 (.inl h1))
       have h4:=hsg t
       rw [← h4] at h3
       have:=hT t
       rw [h3] at this
       exact this
     ·rw [if_neg htn]; exact .undef _ _
    refine hdo (HSl H W (π.take p) ops.size N) (by rw [HSl_len,hlenH i (by omega)]) agree I' μ' a' w' hrestr (fun r hr=>hnil i r hilt hnot hr) _ _ (fun J ν v w2 hv hH2 S2 hsub hout hpr=>?_)
    rw [stepL] at hH2
    refine cont J ν v w2 (fun k h1 h2=>hv k h1 (by rw [hsn]; exact h2)) (fun a v h=>(h.subN hsub).mono S2.mono (S2.keepI hH)) hH2 (fun m r h1 h2 h3=>?_) S2 ⟨?_,fun o ho=>hpr o (by rw [hlenH i (by omega)]; omega) (fun e=>?_)⟩
    ·have hmi:m ≠ i:=fun e=>h2 (by rw [hsucc,e]; simp)
     have hmS:m ∉ π.take p:=fun h=>h2 (by rw [hsucc]; simp [h])
     have h4:=hnil m r h1 hmS h3
     have hf:(F i).contains r = false:=by
      rcases Nat.lt_or_ge i m with h5 | h5
      ·exact ht.own i m r h5 h1 h3
      ·cases hc:(F i).contains r with
       | false=>rfl
       | true=>exact absurd (hbefore m (ht.order m i r (by omega) hilt (.inl ⟨(ht.new m r h1 h3).2.2,hc⟩))) hmS
     rw [hout r hf]; exact h4
    ·rw [hH2.len,HSl_len]; omega
    ·have:=(ht.new i o hilt e).1
     omega
   have hoi:ops[i]? = some ops[i]:=Array.getElem?_eq_getElem hilt
   simp only [wpOps,hoi]
   cases hg:ops[i].guard with
   | none =>
    rw [hg] at hop
    simp only at hop
    rw [if_pos (by simp [Region.wanted,hg])]
    exact .inl (runop hop)
   | some jw =>
    obtain ⟨j,want⟩:=jw
    rw [hg] at hop
    simp only at hop
    obtain ⟨d,hjd,hor⟩:=hop
    have hread:d ∈ readsOf ops ops[i]:=by
     unfold readsOf
     rw [hg]
     simp only
     rw [hjd]
     simp
    rcases hor with ⟨b,hsd,hor⟩ | ⟨hsd,hav,he⟩
    ·have hv:=hT d
     rw [reads d hread,← hsg d,hsd] at hv
     have hdn:=get_lt hsd (by simp)
     have hy:yielded ops a'.tmps j = some b:=by
      unfold yielded
      rw [hjd]
      have hlt':d < a'.tmps.size:=by rw [hsz,← hsn]; exact hdn
      have:=hv.lit_eq
      rw [getD_of hlt'] at this
      simp only [Option.bind_some,Array.getElem?_eq_getElem hlt',this]
     rcases hor with ⟨hb,hdo⟩ | ⟨hb,hav,he⟩
     ·rw [if_pos (by simp [Region.wanted,hg,hy,hb])]
      exact .inl (runop hdo)
     ·rw [if_neg (by simp [Region.wanted,hg,hy,hb])]
      exact skip hav he
    ·have hv:=hT d
     rw [reads d hread,← hsg d,hsd] at hv
     have hdn:=get_lt hsd (by simp)
     have hy:yielded ops a'.tmps j = none:=by
      unfold yielded
      rw [hjd]
      have hlt':d < a'.tmps.size:=by rw [hsz,← hsn]; exact hdn
      have:=tup0_inv hv
      rw [getD_of hlt'] at this
      simp only [Option.bind_some,Array.getElem?_eq_getElem hlt',this]
     rw [if_neg (by simp [Region.wanted,hg,hy])]
     exact skip hav he
 have hμl:μ.length = st.h.length:=R.heap.len
 have hstart:HSl H W (π.take 0) ops.size N = st.h ++ List.replicate k (.arr 1 []):=by
  rw [← hst0h]
  apply List.ext_getElem?
  intro q
  rcases Nat.lt_or_ge q N with h1 | h1
  ·rw [HSl_get h1,HSv_stay (π.take 0) q 0 ops.size (by omega) (fun j _ _ h=>by simp at h)]
   simp only [HSv]
   rw [ht.h0,List.getElem?_eq_getElem (by omega)]; rfl
  ·rw [List.getElem?_eq_none (by rw [HSl_len]; exact h1),List.getElem?_eq_none (by omega)]
 have:=main ops.size 0 (by omega) I (μ ++ List.replicate k Slot.nil) a w0 (fun t=>?_) (by rw [hst0n]; exact R.size) R.defers (by rw [hstart]; exact (R.heap.heap_eq hw0).hold k) (fun m r h1 _ h3=>?_) ⟨fun _ h=>h,Nat.le_refl _,fun _ _ _=>rfl,fun b h=>.inl (hold_owns h),fun _ h=>.inl h,rfl,rfl⟩ ⟨by simp; omega,fun o ho=>.inl (List.getElem?_append_left (by omega))⟩
 ·rw [List.drop_zero] at this; exact this
 ·have h0:GS ops st0 tr (π.take 0) ops.size t = st0.get t:=by
   rw [GS_stay st0 tr (π.take 0) t 0 ops.size (by omega) (fun k _ _ h=>by simp at h)]
   rfl
  rw [h0,hst0g]
  exact ((R.heap_eq hw0).tmps t).sub (MM.sub_append _ _)
 ·obtain ⟨h4,h5,_⟩:=ht.new m r h1 h3
  rw [hst0h,List.length_append,List.length_replicate] at h5
  rw [List.getElem?_append_right (by omega),List.getElem?_replicate,if_pos (by omega)]
end Go.Q
namespace Go.Q
open Go
def okF (ops:Array Oper) (Fs Ws:List (List Nat)) (Rs:List (Option Nat)) (n0 N:Nat):Bool :=
 (List.range ops.size).all fun j =>
  ((Ws.getD j []).all fun k=>(Fs.getD j []).contains k) &&
  (match Rs.getD j none with | some r=>decide (n0 ≤ r) && decide (r < N) && (Ws.getD j []).contains r | none=>true) &&
  (List.range j).all fun i=>(((befores ops.toList []).getD j []).contains i || !((Ws.getD i []).any (fun k=>(Fs.getD j []).contains k) || (Fs.getD i []).any fun k=>(Ws.getD j []).contains k)) &&
   (match Rs.getD j none with | some r=>!((Fs.getD i []).contains r) && (match Rs.getD i none with | some r'=>!(Nat.beq r' r) | none=>true) | none=>true)
structure FNode [KN:Know] (P:Program) (o:Oper) (st:St) (F W:List Nat) (R:Option Nat) (K:AV → List AObj → Prop):Prop where
 ex:∃ av h',OpF P o st F R st.h av h' ∧ h'.length = st.h.length ∧ (∀ k,W.contains k = false → h'[k]? = st.h[k]?) ∧ K av h'
def mixW (W:List Nat):Nat → List AObj → List AObj → List AObj
 | _,[],_=>[]
 | _,h,[]=>h
 | i,o :: h,o' :: h'=>(match W.contains i with | true=>o' | false=>o) :: mixW W (i + 1) h h'
theorem mixW_get (W:List Nat):∀ (h h':List AObj) (i k:Nat),W.contains (i + k) = false → (mixW W i h h')[k]? = h[k]?
 | [],_,_,_,_=>rfl
 | _ :: _,[],_,_,_=>rfl
 | o :: h,o' :: h',i,0,hw=>by
  simp only [mixW,List.getElem?_cons_zero]
  rw [Nat.add_zero] at hw
  rw [hw]
 | o :: h,o' :: h',i,k + 1,hw=>by
  simp only [mixW,List.getElem?_cons_succ]
  exact mixW_get W h h' (i + 1) k (by rw [show i + 1 + k = i + (k + 1) by omega]; exact hw)
theorem FNode.pl [KN:Know] {P:Program} {o:Oper} {st:St} {F W:List Nat} {K:AV → List AObj → Prop} (av:AV) (h':List AObj)
  (h1:dstep P (maskF F 0 st.h).length o (fun st''=>st'' = { (restrictH o st (maskF F 0 st.h)).put o.dst av with h:=maskF F 0 h' }) (restrictH o st (maskF F 0 st.h)))
  (hl:h'.length = st.h.length) (hA:fit1 (fun k=>F.contains k && Nat.blt k st.h.length) av = true) (hO:(maskF F 0 h').all (fitO (fun k=>F.contains k && Nat.blt k st.h.length)) = true) (hW:mixW W 0 st.h h' = h') (h4:K av h'):FNode P o st F W none K :=
 ⟨av,h',OpF.plain (dstep_ok h1) hl hA hO,hl,fun k hk=>by rw [← hW]; exact mixW_get W _ _ 0 k (by rw [Nat.zero_add]; exact hk),h4⟩
theorem FNode.rd [KN:Know] {P:Program} {o:Oper} {st:St} {F W:List Nat} {K:AV → List AObj → Prop} (av:AV)
  (h1:dstep P (maskF F 0 st.h).length o (fun st''=>st'' = { (restrictH o st (maskF F 0 st.h)).put o.dst av with h:=maskF F 0 st.h }) (restrictH o st (maskF F 0 st.h)))
  (hA:fit1 (fun k=>F.contains k && Nat.blt k st.h.length) av = true) (hO:(maskF F 0 st.h).all (fitO (fun k=>F.contains k && Nat.blt k st.h.length)) = true) (h4:K av st.h):FNode P o st F W none K :=
 ⟨av,st.h,OpF.plain (dstep_ok h1) rfl hA hO,rfl,fun _ _=>rfl,h4⟩
theorem maskF_none:∀ (h:List AObj) (i:Nat) (p:Nat → Bool),(maskF [] i h).all (fitO p) = true
 | [],_,_=>rfl
 | _ :: h,i,p=>by
  simp only [maskF,List.contains_nil,List.all_cons,maskF_none h (i + 1) p,Bool.and_true]; rfl
theorem FNode.no [KN:Know] {P:Program} {o:Oper} {st:St} {W:List Nat} {K:AV → List AObj → Prop} (av:AV)
  (h1:dstep P (maskF [] 0 st.h).length o (fun st''=>st'' = { (restrictH o st (maskF [] 0 st.h)).put o.dst av with h:=maskF [] 0 st.h }) (restrictH o st (maskF [] 0 st.h)))
  (hA:fit1 (fun _=>false) av = true) (h4:K av st.h):FNode P o st [] W none K :=
 ⟨av,st.h,OpF.plain (dstep_ok h1) rfl (by
  rw [show (fun k=>([]:List Nat).contains k && Nat.blt k st.h.length) = fun _=>false from funext fun k=>by simp]; exact hA) (maskF_none _ _ _),rfl,fun _ _=>rfl,h4⟩
def fdwp [KN:Know] (P:Program) (ops:Array Oper) (Fs Ws:List (List Nat)) (Rs:List (Option Nat)):List Oper → Nat → (St → Prop) → St → Prop
 | [],_,N,st=>N st
 | o :: r,i,N,st=>match o.guard with
  | none=>FNode P o st (Fs.getD i []) (Ws.getD i []) (Rs.getD i none) (fun av h'=>match st with | ⟨n,ts,_⟩=>(⟨n,ts,h'⟩:St).putK o.dst av (fdwp P ops Fs Ws Rs r (i + 1) N))
  | some (j,want)=>match (ops[j]?).bind (·.dst) with
   | some d=>match st.get d with
    | .lit (.bool b)=>ifB b
      (st.putK (some d) (.lit (.bool true)) fun st=>match want with | true=>FNode P o st (Fs.getD i []) (Ws.getD i []) (Rs.getD i none) (fun av h'=>match st with | ⟨n,ts,_⟩=>(⟨n,ts,h'⟩:St).putK o.dst av (fdwp P ops Fs Ws Rs r (i + 1) N)) | false=>st.putK o.dst (.tup []) (fdwp P ops Fs Ws Rs r (i + 1) N))
      (st.putK (some d) (.lit (.bool false)) fun st=>match want with | false=>FNode P o st (Fs.getD i []) (Ws.getD i []) (Rs.getD i none) (fun av h'=>match st with | ⟨n,ts,_⟩=>(⟨n,ts,h'⟩:St).putK o.dst av (fdwp P ops Fs Ws Rs r (i + 1) N)) | true=>st.putK o.dst (.tup []) (fdwp P ops Fs Ws Rs r (i + 1) N))
    | .tup []=>st.putK o.dst (.tup []) (fdwp P ops Fs Ws Rs r (i + 1) N)
    | _=>False
   | none=>False
def OpFm [KN:Know] (P:Program) (ops:Array Oper) (Fs Ws:List (List Nat)) (Rs:List (Option Nat)) (i:Nat) (o:Oper) (st:St) (av:AV) (h':List AObj):Prop :=
 ∃ s:St,s.n = st.n ∧ (∀ d,s.get d = st.get d) ∧ h'.length = st.h.length ∧ (∀ k,(Ws.getD i []).contains k = false → h'[k]? = st.h[k]?) ∧ match o.guard with
  | none=>OpF P o s (Fs.getD i []) (Rs.getD i none) st.h av h'
  | some (j,want)=>∃ d,(ops[j]?).bind (·.dst) = some d ∧ ((∃ b,s.get d = .lit (.bool b) ∧ ((b = want ∧ OpF P o s (Fs.getD i []) (Rs.getD i none) st.h av h') ∨ (b ≠ want ∧ av = .tup [] ∧ h' = st.h))) ∨ (s.get d = .tup [] ∧ av = .tup [] ∧ h' = st.h))
def TraceFm [KN:Know] (P:Program) (ops:Array Oper) (Fs Ws:List (List Nat)) (Rs:List (Option Nat)):List Oper → Nat → List (List AObj) → St → List AV → List (List AObj) → St → Prop
 | [],_,hs,st,tr,HL,sF=>tr = [] ∧ HL = hs ∧ SameSt st sF
 | o :: r,i,hs,st,tr,HL,sF=>∃ av tr' h',tr = av :: tr' ∧ OpFm P ops Fs Ws Rs i o st av h' ∧ TraceFm P ops Fs Ws Rs r (i + 1) (hs ++ [h']) ((⟨st.n,st.ts,h'⟩:St).put o.dst av) tr' HL sF
theorem TraceFm.cong [KN:Know] {P:Program} {ops:Array Oper} {Fs Ws:List (List Nat)} {Rs:List (Option Nat)}:∀ {l:List Oper} {i:Nat} {hs:List (List AObj)} {st st1:St} {tr:List AV} {HL:List (List AObj)} {sF:St},SameSt st st1 → TraceFm P ops Fs Ws Rs l i hs st tr HL sF → TraceFm P ops Fs Ws Rs l i hs st1 tr HL sF
 | [],_,_,_,_,_,_,_,hs,h=>⟨h.1,h.2.1,⟨fun d=>(hs.get d).symm.trans (h.2.2.get d),hs.n.symm.trans h.2.2.n,hs.h.symm.trans h.2.2.h⟩⟩
 | o :: r,i,hs,st,st1,tr,HL,sF,hS,⟨av,tr',h',e,⟨s,h1,h2,h3⟩,h4⟩=>by
  refine ⟨av,tr',h',e,⟨s,h1.trans hS.n,fun d=>(h2 d).trans (hS.get d),by rw [← hS.h]; exact h3⟩,TraceFm.cong ?_ h4⟩
  exact SameSt.put (s:=⟨st.n,st.ts,h'⟩) (t:=⟨st1.n,st1.ts,h'⟩) ⟨fun d=>hS.get d,hS.n,rfl⟩ _ _
theorem fdwp_ok [KN:Know] {P:Program} {ops:Array Oper} {Fs Ws:List (List Nat)} {Rs:List (Option Nat)} {N:St → Prop}:∀ {l:List Oper} {i:Nat} {hs:List (List AObj)} {st:St},fdwp P ops Fs Ws Rs l i N st → ∃ tr HL sF,TraceFm P ops Fs Ws Rs l i hs st tr HL sF ∧ N sF:=by
 intro l
 induction l with
 | nil=>intro i hs st h; exact ⟨[],hs,st,⟨rfl,rfl,⟨fun _=>rfl,rfl,rfl⟩⟩,h⟩
 | cons o r ih =>
  intro i hs st h
  have node:∀ st1,SameSt st1 st → FNode P o st1 (Fs.getD i []) (Ws.getD i []) (Rs.getD i none) (fun av h'=>match st1 with | ⟨n,ts,_⟩=>(⟨n,ts,h'⟩:St).putK o.dst av (fdwp P ops Fs Ws Rs r (i + 1) N)) →
    ∃ av h' tr HL sF,OpF P o st1 (Fs.getD i []) (Rs.getD i none) st.h av h' ∧ h'.length = st.h.length ∧ (∀ k,(Ws.getD i []).contains k = false → h'[k]? = st.h[k]?) ∧ TraceFm P ops Fs Ws Rs r (i + 1) (hs ++ [h']) ((⟨st.n,st.ts,h'⟩:St).put o.dst av) tr HL sF ∧ N sF:=by
   intro st1 hS ⟨av,h',h1,h2,h3,h4⟩
   have h4':(⟨st1.n,st1.ts,h'⟩:St).putK o.dst av (fdwp P ops Fs Ws Rs r (i + 1) N):=h4
   rw [St.putK_eq] at h4'
   obtain ⟨tr,HL,sF,h5,h6⟩:=ih (hs:=hs ++ [h']) h4'
   rw [← hS.h]
   exact ⟨av,h',tr,HL,sF,h1,h2,h3,TraceFm.cong (SameSt.put (s:=⟨st1.n,st1.ts,h'⟩) (t:=⟨st.n,st.ts,h'⟩) ⟨fun d=>hS.get d,hS.n,rfl⟩ _ _) h5,h6⟩
  simp only [fdwp] at h
  cases hg:o.guard with
  | none =>
   rw [hg] at h
   simp only at h
   obtain ⟨av,h',tr,HL,sF,h1,h2,h3,h4,h5⟩:=node st ⟨fun _=>rfl,rfl,rfl⟩ h
   exact ⟨av :: tr,HL,sF,⟨av,tr,h',rfl,⟨st,rfl,fun _=>rfl,h2,h3,by rw [hg]; exact h1⟩,h4⟩,h5⟩
  | some jw =>
   obtain ⟨j,want⟩:=jw
   rw [hg] at h
   simp only at h
   cases hd:(ops[j]?).bind (·.dst) with
   | none=>rw [hd] at h; exact h.elim
   | some d =>
    rw [hd] at h
    simp only at h
    split at h
    ·rename_i b hb
     have hs':SameSt (st.put (some d) (.lit (.bool b))) st:=(SameSt.reput ⟨fun _=>rfl,rfl,rfl⟩ hb)
     have hb':(st.put (some d) (.lit (.bool b))).get d = .lit (.bool b):=by
      rw [put_get]
      have:=get_lt hb (by simp)
      rw [if_pos ⟨rfl,this⟩]
     obtain ⟨hT,hF⟩:=ifB_elim h
     have run:FNode P o (st.put (some d) (.lit (.bool b))) (Fs.getD i []) (Ws.getD i []) (Rs.getD i none) (fun av h'=>match st.put (some d) (.lit (.bool b)) with | ⟨n,ts,_⟩=>(⟨n,ts,h'⟩:St).putK o.dst av (fdwp P ops Fs Ws Rs r (i + 1) N)) → b = want → ∃ tr HL sF,TraceFm P ops Fs Ws Rs (o :: r) i hs st tr HL sF ∧ N sF:=by
      intro h hw
      obtain ⟨av,h',tr,HL,sF,h1,h2,h3,h4,h5⟩:=node _ hs' h
      exact ⟨av :: tr,HL,sF,⟨av,tr,h',rfl,⟨_,hs'.n,hs'.get,h2,h3,by rw [hg]; exact ⟨d,hd,.inl ⟨b,hb',.inl ⟨hw,h1⟩⟩⟩⟩,h4⟩,h5⟩
     have skip:fdwp P ops Fs Ws Rs r (i + 1) N ((st.put (some d) (.lit (.bool b))).put o.dst (.tup [])) → b ≠ want → ∃ tr HL sF,TraceFm P ops Fs Ws Rs (o :: r) i hs st tr HL sF ∧ N sF:=by
      intro h hw
      obtain ⟨tr,HL,sF,h3,h4⟩:=ih (hs:=hs ++ [st.h]) h
      exact ⟨.tup [] :: tr,HL,sF,⟨.tup [],tr,st.h,rfl,⟨_,hs'.n,hs'.get,rfl,fun _ _=>rfl,by rw [hg]; exact ⟨d,hd,.inl ⟨b,hb',.inr ⟨hw,rfl,rfl⟩⟩⟩⟩,TraceFm.cong (hs'.put o.dst (.tup [])) h3⟩,h4⟩
     cases b with
     | true =>
      have h:=hT rfl
      rw [St.putK_eq] at h
      cases want with
      | true=>exact run h rfl
      | false=>rw [St.putK_eq] at h; exact skip h (by simp)
     | false =>
      have h:=hF rfl
      rw [St.putK_eq] at h
      cases want with
      | false=>exact run h rfl
      | true=>rw [St.putK_eq] at h; exact skip h (by simp)
    ·rename_i hb
     rw [St.putK_eq] at h
     obtain ⟨tr,HL,sF,h3,h4⟩:=ih (hs:=hs ++ [st.h]) h
     exact ⟨.tup [] :: tr,HL,sF,⟨.tup [],tr,st.h,rfl,⟨st,rfl,fun _=>rfl,rfl,fun _ _=>rfl,by rw [hg]; exact ⟨d,hd,.inr ⟨hb,rfl,rfl⟩⟩⟩,h3⟩,h4⟩
    ·exact h.elim
theorem traceFm_at [KN:Know] {P:Program} {ops:Array Oper} {Fs Ws:List (List Nat)} {Rs:List (Option Nat)}:∀ {l:List Oper} {k:Nat} {hs:List (List AObj)} {st:St} {tr:List AV} {HL:List (List AObj)} {sF:St},TraceFm P ops Fs Ws Rs l k hs st tr HL sF → ∀ stB:St,stB.n = st.n → (∀ d,stB.get d = st.get d) → hs.length = k + 1 → hs.getD k [] = st.h →
  ((∀ d,sF.get d = (seqSt l tr l.length stB).get d) ∧ sF.n = stB.n ∧ sF.h = HL.getD (k + l.length) [] ∧ (∀ i,i ≤ k → HL.getD i [] = hs.getD i [])) ∧
  ∀ i o,l[i]? = some o → seqSt l tr (i + 1) stB = (seqSt l tr i stB).put o.dst (tr.getD i .undef) ∧ (HL.getD (k + i + 1) []).length = (HL.getD (k + i) []).length ∧ (∀ q,(Ws.getD (k + i) []).contains q = false → (HL.getD (k + i + 1) [])[q]? = (HL.getD (k + i) [])[q]?) ∧
   ∃ s:St,s.n = (seqSt l tr i stB).n ∧ (∀ d,s.get d = (seqSt l tr i stB).get d) ∧ match o.guard with
    | none=>OpF P o s (Fs.getD (k + i) []) (Rs.getD (k + i) none) (HL.getD (k + i) []) (tr.getD i .undef) (HL.getD (k + i + 1) [])
    | some (j,want)=>∃ d,(ops[j]?).bind (·.dst) = some d ∧ ((∃ b,s.get d = .lit (.bool b) ∧ ((b = want ∧ OpF P o s (Fs.getD (k + i) []) (Rs.getD (k + i) none) (HL.getD (k + i) []) (tr.getD i .undef) (HL.getD (k + i + 1) [])) ∨ (b ≠ want ∧ tr.getD i .undef = .tup [] ∧ HL.getD (k + i + 1) [] = HL.getD (k + i) []))) ∨ (s.get d = .tup [] ∧ tr.getD i .undef = .tup [] ∧ HL.getD (k + i + 1) [] = HL.getD (k + i) []))
 | [],k,hs,st,tr,HL,sF,⟨h1,h2,h3⟩,stB,hn,hg,hl,hh=>by
  subst h1 h2
  refine ⟨⟨fun d=>?_,h3.n.symm.trans hn.symm,h3.h.symm.trans hh.symm,fun _ _=>rfl⟩,fun i o hi=>by simp at hi⟩
  rw [show seqSt [] [] ([]:List Oper).length stB = stB from rfl,hg]; exact (h3.get d).symm
 | o :: r,k,hs,st,tr,HL,sF,⟨av,tr',h',e,⟨s,s1,s2,s3,s4,s5⟩,h4⟩,stB,hn,hg,hl,hh=>by
  subst e
  have hgetD:∀ i,i ≤ k → (hs ++ [h']).getD i [] = hs.getD i []:=fun i hi=>by
   simp only [List.getD]
   rw [List.getElem?_append_left (by omega)]
  have hlast:(hs ++ [h']).getD (k + 1) [] = h':=by
   simp only [List.getD]
   rw [List.getElem?_append_right (by omega),hl]; simp
  obtain ⟨⟨a1,a2,a3,a4⟩,a5⟩:=traceFm_at h4 (stB.put o.dst av) (by rw [put_n,put_n]; exact hn) (fun d=>by rw [put_get,put_get,hn,hg d]; rfl) (by simp [hl]) (by rw [hlast,put_h])
  refine ⟨⟨?_,by rw [a2,put_n],by rw [a3,List.length_cons]; congr 1; omega,fun i hi=>by rw [a4 i (by omega),hgetD i hi]⟩,fun i p hi=>?_⟩
  ·intro d; exact a1 d
  ·cases i with
   | zero =>
    simp only [List.getElem?_cons_zero,Option.some.injEq] at hi
    subst hi
    have e0:HL.getD k [] = st.h:=by rw [a4 k (by omega),hgetD k (Nat.le_refl _)]; exact hh
    have e1:HL.getD (k + 1) [] = h':=by rw [a4 (k + 1) (Nat.le_refl _),hlast]
    simp only [Nat.add_zero]
    rw [e0,e1]
    exact ⟨by rw [seq_zero]; show seqSt r tr' 0 (stB.put o.dst av) = _; rw [seq_zero]; rfl,s3,s4,s,by rw [seq_zero,s1,hn],fun d=>by rw [seq_zero,s2 d,hg d],s5⟩
   | succ i =>
    simp only [List.getElem?_cons_succ] at hi
    have b:=a5 i p hi
    rw [show k + (i + 1) = k + 1 + i by omega]
    exact b
theorem DrawB.ofF [KN:Know] {P:Program} {n id:Nat} {ops:Array Oper} {Q:Exit → St → Prop} {nt:Nat} {ts:List (Nat × AV)} {hs:List AObj} (k:Nat) (hs1:List AObj) (n0 N:Nat) (Fs Ws:List (List Nat)) (Rs:List (Option Nat)) (hm:P.follows .mixedOrders = true) (hd:drawOk ops = true)
  (he:hs ++ List.replicate k (.arr 1 []) = hs1) (hn0:hs.length = n0) (hN:hs1.length = N) (hk:okF ops Fs Ws Rs n0 N = true) (h:fdwp P ops Fs Ws Rs ops.toList 0 (Q .normal) ⟨nt,ts,hs1⟩):DrawB P n id ops Q ⟨nt,ts,hs⟩:=by
 obtain ⟨tr,HL,sF,hT,hQ⟩:=fdwp_ok (hs:=[hs1]) h
 obtain ⟨⟨a1,a2,a3,a4⟩,a5⟩:=traceFm_at hT ⟨nt,ts,hs1⟩ rfl (fun _=>rfl) rfl rfl
 simp only [Nat.zero_add] at a3 a5
 simp only [okF,List.all_eq_true,List.mem_range,Bool.and_eq_true,Bool.or_eq_true,Bool.not_eq_true'] at hk
 have hop:∀ i,i < ops.size → ops.toList[i]? = some ops[i]!:=fun i hi=>by
  rw [Array.getElem?_toList,Array.getElem?_eq_getElem hi,getElem!_pos ops i hi]
 refine ⟨SWP.drawF (F:=fun i=>Fs.getD i []) (W:=fun i=>Ws.getD i []) (Rs:=fun i=>Rs.getD i none) (H:=fun i=>HL.getD i []) (tr:=tr) (sF:=sF) k hm hd ?_ hQ⟩
 show TraceF P ops _ ⟨nt,ts,hs ++ List.replicate k (.arr 1 [])⟩ tr _ _ _ hs.length _ sF
 rw [he]
 have hH0:HL.getD 0 [] = hs1:=a4 0 (Nat.le_refl _)
 refine ⟨hH0,fun i=>?_,fun i q hi hq=>(a5 i _ (hop i hi)).2.2.1 q hq,fun i q hi hq=>?_,fun i j q hij hj hor=>?_,fun i m r him hm' hr=>?_,fun m r hm' hr=>?_,fun m m' r hlt hm' hr hr'=>?_,fun i o ho=>(a5 i o ho).1,a1,a2,?_,fun i o ho=>(a5 i o ho).2.2.2⟩
 ·induction i with
  | zero=>intro _; rw [hH0]
  | succ i ih=>intro hi; rw [(a5 i _ (hop i (by omega))).2.1]; exact ih (by omega)
 ·have:=(hk i hi).1.1
  exact this q (List.contains_iff_mem.1 hq)
 ·have h1:=((hk j hj).2 i hij).1
  rcases h1 with h1 | h1
  ·exact List.contains_iff_mem.1 h1
  ·rw [Bool.or_eq_false_iff] at h1
   rcases hor with ⟨h2,h3⟩ | ⟨h2,h3⟩
   ·have:=List.any_eq_false.1 h1.1 q (List.contains_iff_mem.1 h2)
    exact absurd h3 this
   ·have:=List.any_eq_false.1 h1.2 q (List.contains_iff_mem.1 h2)
    exact absurd h3 this
 ·have h1:=((hk m hm').2 i him).2
  rw [show Rs.getD m none = some r from hr] at h1
  simp only [Bool.and_eq_true,Bool.not_eq_true'] at h1
  exact h1.1
 ·have h1:=(hk m hm').1.2
  rw [show Rs.getD m none = some r from hr] at h1
  simp only [Bool.and_eq_true,decide_eq_true_eq] at h1
  exact ⟨by rw [hn0]; exact h1.1.1,by show r < hs1.length; rw [hN]; exact h1.1.2,h1.2⟩
 ·have h1:=((hk m' hm').2 m hlt).2
  rw [show Rs.getD m' none = some r from hr',show Rs.getD m none = some r from hr] at h1
  simp only [Bool.and_eq_true,Bool.not_eq_true',Nat.beq_refl] at h1
  cases h1.2
 ·rw [a3]; simp
end Go.Q
namespace Go.Q
open Go
theorem DrawB.sees [KN:Know] {P:Program} {n id:Nat} {ops:Array Oper} {Q:Exit → St → Prop} {st st':St} (W:Sees n st st') (h:DrawB P n id ops Q st'):DrawB P n id ops Q st:=⟨SWP.sees W h.ok⟩
abbrev GivesN [KN:Know] (P:Program) (g:FuncId) (args:List AV) (s:Nat) (es:List AV):Prop:=ACalls P g args [] (fun r h=>r = .ref 0 0 es.length ∧ h = [.arr s es])
theorem CallN.fresh [KN:Know] {P:Program} {n:Nat} {g:FuncId} {args:List AV} {st:St} {K:St → AV → Prop} {s:Nat} {es:List AV} (h:GivesN P g args s es) (hp:args.all pureQ = true)
  (hK:K ⟨st.n,st.ts,st.h ++ [.arr s es]⟩ (.ref st.h.length 0 es.length)):CallN P n g args st K:=by
 refine ⟨fun I μ a w vals Rl hn hv=>?_⟩
 refine (h I [] w vals (relH_nil Rl.heap.imm Rl.heap.know) ⟨hv.1,fun i hi=>pureQ_ok (List.all_eq_true.1 hp _ (List.getElem_mem hi)) (hv.2 i hi) []⟩).mono ?_
 rintro e w' ⟨v,r,h',I',μ',rfl,⟨rfl,rfl⟩,H',hr,S,_⟩
 have H:=Rl.heap
 have hl':μ'.length = 1:=H'.len
 have nown:∀ b,¬ MM.owns [] b:=fun b ⟨o,l,h1,_⟩=>by simp [MM.loc] at h1
 have keep:∀ b,b < w.heap.size → w'.heap[b]? = w.heap[b]?:=fun b hb=>S.same b hb (nown b)
 have hsub:=MM.sub_append μ μ'
 have split:∀ o l,MM.loc (μ ++ μ') o = some l → (o < μ.length ∧ μ.loc o = some l) ∨ (o = μ.length ∧ μ'.loc 0 = some l):=fun o l h0=>by
  have h1:=MM.loc_some.1 h0
  rcases Nat.lt_or_ge o μ.length with h2 | h2
  ·rw [List.getElem?_append_left h2] at h1; exact .inl ⟨h2,MM.loc_some.2 h1⟩
  ·rw [List.getElem?_append_right h2] at h1
   have h3:=(List.getElem?_eq_some_iff.1 h1).1
   have h4:o - μ.length = 0:=by omega
   rw [h4] at h1
   exact .inr ⟨by omega,MM.loc_some.2 h1⟩
 have new:∀ l,μ'.loc 0 = some l → w.heap.size ≤ l.block:=fun l hl=>(S.own _ (owns_of hl)).resolve_left (nown _)
 refine ⟨v,.ref st.h.length 0 es.length,I',μ ++ μ',⟨st.n,st.ts,st.h ++ [.arr s es]⟩,rfl,hK,⟨fun d=>?_,Rl.size,Rl.defers,⟨?_,fun o ob x h1 h2=>?_,fun b hb hI=>?_,fun o o' l l' h1 h2 e=>?_,H'.imm,H'.know⟩⟩,?_,⟨S.mono,S.grow,fun b hb _=>keep b hb,fun b hb=>?_,fun b hb=>?_,S.ext⟩,⟨by simp; omega,fun o ho=>.inl (List.getElem?_append_left (by omega))⟩⟩
 ·exact ((Rl.tmps d).sub hsub).mono S.mono (fun b hb=>keep b (H.imm b hb))
 ·rw [List.length_append,H.len,hl']; simp
 ·rcases Nat.lt_or_ge o μ.length with h3 | h3
  ·rw [List.getElem?_append_left h3] at h2
   have h1':(st.h ++ [AObj.arr s es])[o]? = some ob:=h1
   rw [List.getElem?_append_left (by rw [← H.len]; exact h3)] at h1'
   refine (H.objs o ob x h1' h2).mono S.mono (fun b hb=>keep b (H.imm b hb)) (fun _ _ h=>h.sub hsub) (fun l hl=>?_)
   subst hl
   exact keep _ (H.size_owned (owns_of (MM.loc_some.2 h2)))
  ·rw [List.getElem?_append_right h3] at h2
   have h1':(st.h ++ [AObj.arr s es])[o]? = some ob:=h1
   rw [List.getElem?_append_right (by rw [← H.len]; exact h3),← H.len] at h1'
   have h4:o - μ.length = 0:=by
    have:=(List.getElem?_eq_some_iff.1 h2).1
    omega
   rw [h4] at h1' h2
   cases h1'
   have h5:=H'.objs 0 _ x rfl h2
   cases h5 with
   | arr0=>exact .arr0 _
   | arr _ _ l val a1 a2 a3 a4 a5 a6=>exact .arr _ _ l val a1 a2 a3 a4 a5 a6
 ·obtain ⟨o,l,hl,rfl⟩:=hb
  rcases split o l hl with ⟨_,h1⟩ | ⟨_,h1⟩
  ·rcases S.imm _ hI with h2 | h2 | h2
   ·exact H.notI _ (owns_of h1) h2
   ·exact nown _ h2
   ·have:=H.size_owned (owns_of h1); omega
  ·exact H'.notI _ (owns_of h1) hI
 ·rcases split o l h1 with ⟨a1,a2⟩ | ⟨a1,a2⟩ <;> rcases split o' l' h2 with ⟨b1,b2⟩ | ⟨b1,b2⟩
  ·exact H.apart o o' l l' a2 b2 e
  ·have:=H.size_owned (owns_of a2)
   have:=new l' b2
   omega
  ·have:=H.size_owned (owns_of b2)
   have:=new l a2
   omega
  ·omega
 ·refine new_rel (ν:=μ') (N:=0) (r:=st.h.length) ?_ (.inr ⟨0,es.length,rfl,rfl⟩) hr
  rw [List.getElem?_append_right (by rw [H.len]; exact Nat.le_refl _),H.len,Nat.sub_self]
 ·obtain ⟨o,l,hl,rfl⟩:=hb
  rcases split o l hl with ⟨_,h1⟩ | ⟨_,h1⟩
  ·exact .inl (owns_of h1)
  ·exact .inr (new l h1)
 ·rcases S.imm b hb with h1 | h1 | h1
  ·exact .inl h1
  ·exact absurd h1 (nown b)
  ·exact .inr (.inr h1)
end Go.Q
namespace Go.Q
open Go
structure MakeN [KN:Know] (P:Program) (n:Nat) (ops:Array Oper) (l:List Oper) (N:St → Prop) (st:St):Prop where
 ok:SR P n ops l N st
end Go.Q
namespace Go.Q
open Go
end Go.Q
namespace Go.Q
open Go
def gsOk (ops:Array Oper):List Oper → List (Option Nat) → Bool
 | [],_=>true
 | o :: r,gs=>(match o.guard with
  | none=>true
  | some (j,_)=>match gs with
   | some d :: _=>(match (ops[j]?).bind (·.dst) with | some d'=>Nat.beq d' d | none=>false)
   | _=>false) && gsOk ops r gs.tail
def bdwg [KN:Know] (P:Program):List Oper → List (Option Nat) → (St → Prop) → St → Prop
 | [],_,N,st=>N st
 | o :: r,gs,N,st=>match o.guard with
  | none=>DNodeB P o st (fun av=>st.putK o.dst av (bdwg P r gs.tail N))
  | some (_,want)=>match gs with
   | some d :: gs'=>(match st.get d with
    | .lit (.bool b)=>ifB b
      (st.putK (some d) (.lit (.bool true)) fun st=>match want with | true=>DNodeB P o st (fun av=>st.putK o.dst av (bdwg P r gs' N)) | false=>st.putK o.dst (.tup []) (bdwg P r gs' N))
      (st.putK (some d) (.lit (.bool false)) fun st=>match want with | false=>DNodeB P o st (fun av=>st.putK o.dst av (bdwg P r gs' N)) | true=>st.putK o.dst (.tup []) (bdwg P r gs' N))
    | .tup []=>st.putK o.dst (.tup []) (bdwg P r gs' N)
    | _=>False)
   | _=>False
theorem DNodeB.mono [KN:Know] {P:Program} {o:Oper} {st:St} {K K':AV → Prop} (h:DNodeB P o st K) (f:∀ av,K av → K' av):DNodeB P o st K':=by
 obtain ⟨av,h1,h2⟩:=h
 exact ⟨av,h1,f av h2⟩
theorem ifB_mono {b:Bool} {A B A' B':Prop} (h:ifB b A B) (f:A → A') (g:B → B'):ifB b A' B':=by
 obtain ⟨h1,h2⟩:=ifB_elim h
 cases b with
 | true=>exact f (h1 rfl)
 | false=>exact g (h2 rfl)
theorem putK_mono {st:St} {d:Option Nat} {v:AV} {K K':St → Prop} (h:st.putK d v K) (f:∀ s,K s → K' s):st.putK d v K':=by
 rw [St.putK_eq] at h ⊢; exact f _ h
theorem bdwg_bdwp [KN:Know] {P:Program} {ops:Array Oper} {N:St → Prop}:∀ {l:List Oper} {gs:List (Option Nat)} {st:St},gsOk ops l gs = true → bdwg P l gs N st → bdwp P ops l N st:=by
 intro l
 induction l with
 | nil=>intro gs st _ h; exact h
 | cons o r ih =>
  intro gs st hg h
  simp only [gsOk,Bool.and_eq_true] at hg
  obtain ⟨hg1,hg2⟩:=hg
  simp only [bdwg] at h
  simp only [bdwp]
  cases ho:o.guard with
  | none =>
   rw [ho] at h
   simp only at h ⊢
   exact h.mono fun av h=>putK_mono h fun s h=>ih hg2 h
  | some jw =>
   obtain ⟨j,want⟩:=jw
   rw [ho] at h hg1
   simp only at h hg1 ⊢
   cases gs with
   | nil=>exact h.elim
   | cons g gs' =>
    cases g with
    | none=>exact h.elim
    | some d =>
     simp only at h hg1
     cases hd:(ops[j]?).bind (·.dst) with
     | none=>rw [hd] at hg1; cases hg1
     | some d' =>
      rw [hd] at hg1
      simp only at hg1
      obtain rfl:d' = d:=Nat.eq_of_beq_eq_true hg1
      simp only
      have nx:∀ s,bdwg P r gs' N s → bdwp P ops r N s:=fun s h=>ih hg2 h
      split at h
      ·rename_i b hb
       rw [hb]
       simp only
       refine ifB_mono h (fun h=>putK_mono h fun s h=>?_) (fun h=>putK_mono h fun s h=>?_)
       ·cases want with
        | true=>exact h.mono fun av h=>putK_mono h nx
        | false=>exact putK_mono h nx
       ·cases want with
        | false=>exact h.mono fun av h=>putK_mono h nx
        | true=>exact putK_mono h nx
      ·rename_i hb
       rw [hb]
       exact putK_mono h nx
      ·exact h.elim
def befE (acc:List Nat) (b:Nat) (e:Edge):Nat:=b ||| (1 <<< e.on) ||| acc.getD e.on 0
def befN:List Oper → List Nat → List Nat
 | [],acc=>acc
 | o :: r,acc=>befN r (acc ++ [(pl o).foldl (befE acc) 0])
theorem testBit_one (n x:Nat):(1 <<< n).testBit x = decide (n = x):=by
 rw [Nat.shiftLeft_eq,Nat.one_mul,Nat.testBit_two_pow]
theorem befE_bit (acc:List Nat) (x:Nat):∀ (es:List Edge) (b:Nat),(es.foldl (befE acc) b).testBit x = true ↔ b.testBit x = true ∨ ∃ e ∈ es,x = e.on ∨ (acc.getD e.on 0).testBit x = true
 | [],b=>by simp
 | e :: es,b=>by
  rw [List.foldl_cons,befE_bit acc x es]
  simp only [befE,Nat.testBit_or,testBit_one,Bool.or_eq_true,decide_eq_true_eq,List.mem_cons,exists_eq_or_imp]
  constructor
  ·rintro ((( h | h) | h) | h)
   ·exact .inl h
   ·exact .inr (.inl (.inl h.symm))
   ·exact .inr (.inl (.inr h))
   ·exact .inr (.inr h)
  ·rintro (h | (h | h) | h)
   ·exact .inl (.inl (.inl h))
   ·exact .inl (.inl (.inr h.symm))
   ·exact .inl (.inr h)
   ·exact .inr h
theorem befN_bit:∀ (l:List Oper) (acc:List Nat) (acl:List (List Nat)),acc.length = acl.length → (∀ i x,(acc.getD i 0).testBit x = true ↔ x ∈ acl.getD i []) → ∀ i x,((befN l acc).getD i 0).testBit x = true ↔ x ∈ (befores l acl).getD i []
 | [],_,_,_,h=>h
 | o :: r,acc,acl,hl,h=>by
  simp only [befN,befores]
  refine befN_bit r _ _ (by simp [hl]) (fun i x=>?_)
  rcases Nat.lt_or_ge i acc.length with h1 | h1
  ·have e1:(acc ++ [(pl o).foldl (befE acc) 0]).getD i 0 = acc.getD i 0:=by
    simp only [List.getD]; rw [List.getElem?_append_left h1]
   have e2:(acl ++ [(pl o).flatMap fun e=>e.on :: acl.getD e.on []]).getD i [] = acl.getD i []:=by
    simp only [List.getD]; rw [List.getElem?_append_left (by omega)]
   rw [e1,e2]; exact h i x
  ·by_cases h2:i = acc.length
   ·have e1:(acc ++ [(pl o).foldl (befE acc) 0]).getD i 0 = (pl o).foldl (befE acc) 0:=by
     simp only [List.getD]; rw [h2,get_append_self]; rfl
    have e2:(acl ++ [(pl o).flatMap fun e=>e.on :: acl.getD e.on []]).getD i [] = (pl o).flatMap fun e=>e.on :: acl.getD e.on []:=by
     simp only [List.getD]; rw [h2,hl,get_append_self]; rfl
    rw [e1,e2,befE_bit]
    simp only [Nat.zero_testBit,Bool.false_eq_true,false_or,List.mem_flatMap,List.mem_cons]
    refine ⟨fun ⟨e,he,hx⟩=>⟨e,he,hx.imp id (fun q=>(h _ _).1 q)⟩,fun ⟨e,he,hx⟩=>⟨e,he,hx.imp id (fun q=>(h _ _).2 q)⟩⟩
   ·have e1:(acc ++ [(pl o).foldl (befE acc) 0]).getD i 0 = 0:=by
     simp only [List.getD]; rw [List.getElem?_eq_none (by simp; omega)]; rfl
    have e2:(acl ++ [(pl o).flatMap fun e=>e.on :: acl.getD e.on []]).getD i [] = []:=by
     simp only [List.getD]; rw [List.getElem?_eq_none (by simp; omega)]; rfl
    rw [e1,e2]; simp
theorem befN_eq (ops:Array Oper) (i x:Nat):((befores ops.toList []).getD i []).contains x = ((befN ops.toList []).getD i 0).testBit x:=by
 rw [Bool.eq_iff_iff,List.contains_iff_mem,befN_bit ops.toList [] [] rfl (fun i x=>by simp) i x]
def drawOkN (ops:Array Oper):Bool :=
 ops.toList.zipIdx.all fun (o,i) =>
  ((pl o).all fun e=>decide (e.on < i)) &&
  ops.toList.zipIdx.all fun (p,j)=>!(decide (j < i)) || ((befN ops.toList []).getD i 0).testBit j || !(clash ops o p)
theorem drawOkN_ok {ops:Array Oper} (h:drawOkN ops = true):drawOk ops = true:=by
 simp only [drawOkN,List.all_eq_true,Bool.and_eq_true] at h
 simp only [drawOk,List.all_eq_true,Bool.and_eq_true]
 intro a ha
 obtain ⟨h1,h2⟩:=h a ha
 refine ⟨h1,fun b hb=>?_⟩
 have:=h2 b hb
 rw [befN_eq]
 simp only [Bool.or_eq_true] at this ⊢
 rcases this with (h3 | h3) | h3
 ·exact .inl (.inl h3)
 ·exact .inr h3
 ·exact .inl (.inr h3)
def okFN (ops:Array Oper) (Fs Ws:List (List Nat)) (Rs:List (Option Nat)) (n0 N:Nat):Bool :=
 (List.range ops.size).all fun j =>
  ((Ws.getD j []).all fun k=>(Fs.getD j []).contains k) &&
  (match Rs.getD j none with | some r=>decide (n0 ≤ r) && decide (r < N) && (Ws.getD j []).contains r | none=>true) &&
  (List.range j).all fun i=>(((befN ops.toList []).getD j 0).testBit i || !((Ws.getD i []).any (fun k=>(Fs.getD j []).contains k) || (Fs.getD i []).any fun k=>(Ws.getD j []).contains k)) &&
   (match Rs.getD j none with | some r=>!((Fs.getD i []).contains r) && (match Rs.getD i none with | some r'=>!(Nat.beq r' r) | none=>true) | none=>true)
theorem okFN_ok {ops:Array Oper} {Fs Ws:List (List Nat)} {Rs:List (Option Nat)} {n0 N:Nat} (h:okFN ops Fs Ws Rs n0 N = true):okF ops Fs Ws Rs n0 N = true:=by
 unfold okF
 simp only [befN_eq]
 exact h
theorem DrawB.ofG [KN:Know] {P:Program} {n id:Nat} {ops:Array Oper} {Q:Exit → St → Prop} {st:St} (gs:List (Option Nat)) (hm:P.follows .mixedOrders = true) (hd:drawOkN ops = true) (hg:gsOk ops ops.toList gs = true) (h:bdwg P ops.toList gs (Q .normal) st):DrawB P n id ops Q st :=
 DrawB.of hm (drawOkN_ok hd) (bdwg_bdwp hg h)
theorem DrawB.ofFN [KN:Know] {P:Program} {n id:Nat} {ops:Array Oper} {Q:Exit → St → Prop} {nt:Nat} {ts:List (Nat × AV)} {hs:List AObj} (k:Nat) (hs1:List AObj) (n0 N:Nat) (Fs Ws:List (List Nat)) (Rs:List (Option Nat)) (hm:P.follows .mixedOrders = true) (hd:drawOkN ops = true)
  (he:hs ++ List.replicate k (.arr 1 []) = hs1) (hn0:hs.length = n0) (hN:hs1.length = N) (hk:okFN ops Fs Ws Rs n0 N = true) (h:fdwp P ops Fs Ws Rs ops.toList 0 (Q .normal) ⟨nt,ts,hs1⟩):DrawB P n id ops Q ⟨nt,ts,hs⟩ :=
 DrawB.ofF k hs1 n0 N Fs Ws Rs hm (drawOkN_ok hd) he hn0 hN (okFN_ok hk) h
end Go.Q
namespace Go.Q
open Go
theorem BackS.by [KN:Know] {n:Nat} {s s':St} {T:St → Prop} (t:T s') (h:Sees n s s'):BackS n s T:=⟨s',h,t⟩
theorem WV.s {h:List AObj} {keep frz:List Nat} {m:Nat} {a:AV} (hp:pureQ a = true:=by rfl):WV h keep frz m a a:=.same a hp
end Go.Q
namespace Go.Q
open Go
abbrev VI' (l:List Int):AV:=.vs 1 (l.map (eI .i64))
theorem N' {α ρ:Type} {x:α} {X:α → Option ρ} {r:ρ} {K:α → Prop} (h:letk x X = some r) (k:∀ y,X y = some r → K y):Nm x K:=Nm.mk ⟨x,rfl,k x h⟩
theorem C' {ρ:Type} {x:Bool} {X Y:Bool → Option ρ} {r:ρ} {K:Bool → Prop} (h:letk x (fun t=>bif t then X t else Y t) = some r) (f:Y false = some r → K false) (g:X true = some r → K true):Nm x K:=Nm.mk ⟨x,rfl,by
 cases x
 ·exact f h
 ·exact g h⟩
theorem V' {α:Type} {x:α} {K:α → Prop} (k:K x):Nm x K:=Nm.mk ⟨x,rfl,k⟩
theorem n' {α:Type} {x y:α} {K:α → Prop} (e:y = x) (k:K y):Nm x K:=Nm.mk ⟨y,e,k⟩
theorem S' {ρ:Type} {c:Prop} {X:Option ρ} {r:ρ} {K:Prop} (h:chk c X = some r) (k:X = some r → K):Side c K:=Side.mk (chk_elim h).1 (k (chk_elim h).2)
theorem R' [KN:Know] {α:Type} {P:Program} {fn:Func} {E:α → AV} {e:Exit} {st:St} {vs:List AV} {x r:α} (h:some x = some r) (he:isEnd e = true:=by rfl) (hv:aresults P st fn.results.toList = some vs:=by rfl) (hr:resultAV vs = E x:=by rfl) (hp:pureT (E x) = true:=by rfl):Returns P 0 fn (fun a h=>a = E r ∧ h = []) e st:=by
 cases h; exact Returns.pure he hv hr hp ⟨rfl,rfl⟩
theorem A' [KN:Know] {P:Program} {n:Nat} {g:FuncId} {args:List AV} {st:St} {K:St → AV → Prop} {α ρ:Type} {E:α → AV} {x:Option α} {X:α → Option ρ} {r:ρ} (h:x.bind X = some r) (G:∀ {y},x = some y → Gives P g args (E y)) (k:∀ y,X y = some r → K st (E y)) (hp:args.all pureQ = true:=by rfl) (hv:∀ y,pureT (E y) = true:=by exact fun _=>rfl):CallN P n g args st K:=by
 obtain ⟨y,e,h⟩:=bind_elim h
 exact CallN.by (G e) hp (hv y) (k y h)
theorem Z' [KN:Know] {P:Program} {n:Nat} {g:FuncId} {args:List AV} {st:St} {K:St → AV → Prop} {v:AV} (h:Gives P g args v) (hK:K st v) (hp:args.all pureQ = true:=by rfl) (hv:pureT v = true:=by rfl):CallN P n g args st K:=CallN.by h hp hv hK
theorem D' [KN:Know] {P:Program} {o:Oper} {st:St} {K:AV → Prop} {av:AV} (h1:dstep P st.h.length o (fun st''=>st'' = (restrict o st).put o.dst av) (restrict o st)) (h2:K av):DNodeB P o st K:=⟨av,h1,h2⟩
theorem DN' [KN:Know] {P:Program} {o:Oper} {st:St} {K:AV → Prop} {α ρ:Type} {E:α → AV} {x:α} {X:α → Option ρ} {r:ρ} (h:letk x X = some r) (h1:∀ {y},y = x → dstep P st.h.length o (fun st''=>st'' = (restrict o st).put o.dst (E y)) (restrict o st)) (k:∀ y,X y = some r → K (E y)):DNodeB P o st K:=⟨E x,h1 rfl,k x h⟩
theorem DC' [KN:Know] {P:Program} {o:Oper} {st:St} {K:AV → Prop} {α ρ:Type} {E:α → AV} {x:Option α} {X:α → Option ρ} {r:ρ} (h:x.bind X = some r) (h1:∀ {y},x = some y → dstep P st.h.length o (fun st''=>st'' = (restrict o st).put o.dst (E y)) (restrict o st)) (k:∀ y,X y = some r → K (E y)):DNodeB P o st K:=by
 obtain ⟨y,e,h⟩:=bind_elim h
 exact ⟨E y,h1 e,k y h⟩
theorem DS' [KN:Know] {P:Program} {o:Oper} {st:St} {K:AV → Prop} {α ρ:Type} {E:α → AV} {c:Prop} {x:α} {X:α → Option ρ} {r:ρ} (h:chk c (letk x X) = some r) (h1:∀ {y},c → y = x → dstep P st.h.length o (fun st''=>st'' = (restrict o st).put o.dst (E y)) (restrict o st)) (k:∀ y,X y = some r → K (E y)):DNodeB P o st K:=by
 obtain ⟨hc,h⟩:=chk_elim h
 exact ⟨E x,h1 hc rfl,k x h⟩
def idx:List Nat → Nat → Option Nat
 | [],_=>none
 | k :: r,o=>bif k == o then some 0 else (idx r o).map (· + 1)
theorem idx_ok:∀ {l:List Nat} {o i:Nat},idx l o = some i → l[i]? = some o
 | [],_,_,h=>by cases h
 | k :: r,o,i,h=>by
  unfold idx at h
  cases e:k == o with
  | true=>rw [e] at h; cases h; simpa using e
  | false =>
   rw [e] at h
   cases e2:idx r o with
   | none=>rw [e2] at h; cases h
   | some j=>rw [e2] at h; cases h; simpa using idx_ok e2
def nv1 (keep:List Nat) (a v:AV):AV:=match a with
 | .ptr o j=>match idx keep o with | some i=>.ptr i j | none=>.undef
 | .ref o x y=>match idx keep o with | some i=>.ref i x y | none=>.undef
 | .eptr o p j=>match idx keep o with | some i=>.eptr i p j | none=>.undef
 | .nils=>match v with | .vs s _=>.vs s [] | _=>.nils
 | a=>bif pureQ a then a else .undef
def nvs (keep:List Nat):List AV → List AV → List AV
 | [],_=>[]
 | a :: l,[]=>nv1 keep a .undef :: nvs keep l []
 | a :: l,b :: m=>nv1 keep a b :: nvs keep l m
def nv (keep:List Nat) (a v:AV):AV:=match a with
 | .agg cs=>match v with | .agg ds=>.agg (nvs keep cs ds) | _=>.undef
 | .tup cs=>match v with | .tup ds=>.tup (nvs keep cs ds) | _=>.undef
 | a=>nv1 keep a v
def nO (keep:List Nat) (a v:AObj):AObj:=match a with
 | .box cs=>match v with | .box ds=>.box (nvs keep cs ds) | _=>.box (nvs keep cs [])
 | a=>a
theorem nv1_ok [_KN:Know] {h:List AObj} {keep:List Nat} {a v:AV}:WV h keep [] 0 a (nv1 keep a v):=by
 have p:∀ a,WV h keep [] 0 a (bif pureQ a then a else .undef):=fun a=>by
  cases e:pureQ a with
  | true=>exact .same a e
  | false=>exact .undef a
 unfold nv1
 split
 ·split
  ·rename_i e; exact .ptr _ _ _ (idx_ok e)
  ·exact .undef _
 ·split
  ·rename_i e; exact .ref _ _ _ _ (idx_ok e)
  ·exact .undef _
 ·split
  ·rename_i e; exact .eptr _ _ _ _ (idx_ok e)
  ·exact .undef _
 ·split
  ·exact .nilsVs _
  ·exact .same _ rfl
 ·exact p _
theorem nvs_ok [KN:Know] {h:List AObj} {keep:List Nat}:∀ {cs ds:List AV},WVs h keep [] 0 cs (nvs keep cs ds)
 | [],_=>by unfold nvs; trivial
 | _ :: _,[]=>⟨nv1_ok,nvs_ok⟩
 | _ :: _,_ :: _=>⟨nv1_ok,nvs_ok⟩
theorem nv_ok [KN:Know] {h:List AObj} {keep:List Nat} {a v:AV}:WV h keep [] 0 a (nv keep a v):=by
 unfold nv
 split
 ·split
  ·exact WV.aggs nvs_ok
  ·exact .undef _
 ·split
  ·exact WV.tups nvs_ok
  ·exact .undef _
 ·exact nv1_ok
theorem nO_ok [KN:Know] {h:List AObj} {keep:List Nat} {a v:AObj} (ha:a ≠ .dead ∨ a = .dead):WO h keep [] 0 a (nO keep a v):=by
 cases a with
 | box cs =>
  cases v with
  | box ds=>exact WO.boxs nvs_ok
  | _=>exact WO.boxs nvs_ok
 | arr s es=>exact .arr s es
 | dead=>exact .dead
def nts (st:St) (keep:List Nat):List (Nat × AV) → List (Nat × AV)
 | []=>[]
 | p :: r=>(p.1,nv keep (st.get p.1) p.2) :: nts st keep r
theorem nts_ok [KN:Know] {st:St} {keep:List Nat}:∀ {ts:List (Nat × AV)},Seen st keep [] 0 (nts st keep ts)
 | []=>trivial
 | _ :: _=>⟨nv_ok,nts_ok⟩
def nhs (h:List AObj) (keep:List Nat):List Nat → List AObj → List AObj
 | k :: r,d :: ds=>(match h[k]? with | some ob=>nO keep ob d | none=>.dead) :: nhs h keep r ds
 | _,_=>[]
def khs (h:List AObj):List Nat → List AObj → Bool
 | k :: r,_ :: ds=>h[k]?.isSome && khs h r ds
 | [],[]=>true
 | _,_=>false
theorem nhs_ok [KN:Know] {h:List AObj} {keep:List Nat}:∀ {ks:List Nat} {hs:List AObj},khs h ks hs = true → SeenO h keep [] 0 ks (nhs h keep ks hs)
 | [],[],_=>⟨rfl,fun _ h=>by cases h⟩
 | [],_ :: _,e=>by cases e
 | _ :: _,[],e=>by cases e
 | k :: r,d :: ds,e=>by
  unfold khs at e
  rw [Bool.and_eq_true] at e
  obtain ⟨e1,e2⟩:=e
  refine ⟨?_,nhs_ok e2⟩
  cases e3:h[k]? with
  | none=>rw [e3] at e1; cases e1
  | some ob=>exact ⟨ob,rfl,nO_ok (Classical.em _).symm⟩
theorem B' [KN:Know] {n:Nat} {st:St} {k:Nat} {ts:List (Nat × AV)} {hs:List AObj} {T:St → Prop} (keep:List Nat) (t:T ⟨k,ts,hs⟩) (h1:(decide keep.Nodup && khs st.h keep hs) = true:=by rfl) (h2:(⟨st.n,nts st keep ts,nhs st.h keep keep hs⟩:St) = ⟨k,ts,hs⟩:=by rfl) (h3:keep.take n = List.range n:=by rfl):BackS n st T:=by
 rw [Bool.and_eq_true] at h1
 refine BackS.by t ?_
 rw [← h2]
 exact Sees.of (Weak.objs (keep:=keep) (frz:=[]) (m:=0) rfl (of_decide_eq_true h1.1) h3 rfl (nhs_ok h1.2) nts_ok)
theorem W' [KN : Know] {P : Program} {f : FuncId} {fn : Func} {c : Code} {args : List AV} {R : AV → List AObj → Prop} (C : List (Nat × Nat)) (hf : P.funcs[f]? = some fn) (h : bwp P 0 C c (Returns P 0 fn R) (argState fn args [])) (hb : fn.body = some c := by rfl) (hname : (fn.name == "runtime.NumGoroutine") = false := by decide) (hargs : Nat.ble args.length fn.ntmps = true := by rfl) : ACalls P f args [] R :=
 ACalls.of_swp hf hb hname hargs rfl (bwp_ok (C:=C) h)
def nlv (st:St) (keep:List Nat):List Nat → List (Nat × AV)
 | []=>[]
 | d :: r=>(d,nv keep (st.get d) (st.get d)) :: nlv st keep r
theorem nlv_ok [KN:Know] {st:St} {keep:List Nat}:∀ {l:List Nat},Seen st keep [] 0 (nlv st keep l)
 | []=>trivial
 | _ :: _=>⟨nv_ok,nlv_ok⟩
def nho (h:List AObj) (keep:List Nat):List Nat → List AObj
 | []=>[]
 | k :: r=>(match h[k]? with | some ob=>nO keep ob ob | none=>.dead) :: nho h keep r
theorem nho_ok [KN:Know] {h:List AObj} {keep:List Nat}:∀ {ks:List Nat},(ks.all fun k=>h[k]?.isSome) = true → SeenO h keep [] 0 ks (nho h keep ks)
 | [],_=>⟨rfl,fun _ h=>by cases h⟩
 | k :: r,e=>by
  rw [List.all_cons,Bool.and_eq_true] at e
  obtain ⟨e1,e2⟩:=e
  refine ⟨?_,nho_ok e2⟩
  cases e3:h[k]? with
  | none=>rw [e3] at e1; cases e1
  | some ob=>exact ⟨ob,rfl,nO_ok (Classical.em _).symm⟩
theorem L' [KN:Know] {P:Program} {n id:Nat} {ops:Array Oper} {Q:Exit → St → Prop} {st:St} (keep live:List Nat) (h:DrawB P n id ops Q ⟨st.n,nlv st keep live,nho st.h keep keep⟩) (hc:(decide keep.Nodup && keep.all fun k=>st.h[k]?.isSome) = true:=by rfl) (h3:keep.take n = List.range n:=by rfl):DrawB P n id ops Q st:=by
 rw [Bool.and_eq_true] at hc
 exact DrawB.sees (Sees.of (Weak.objs (keep:=keep) (frz:=[]) (m:=0) rfl (of_decide_eq_true hc.1) h3 rfl (nho_ok hc.2) nlv_ok)) h
end Go.Q
namespace Go.Q
open Go
end Go.Q
namespace Go.Q
open Go
theorem updF_none (hh h:List AObj):updF [] hh h = hh:=by
 apply List.ext_getElem?
 intro k
 by_cases hk:k < hh.length
 ·rw [updF_get hk,List.getElem?_eq_getElem hk]
  show some (hh.getD k .dead) = _
  rw [List.getD_eq_getElem?_getD,List.getElem?_eq_getElem hk]; rfl
 ·rw [List.getElem?_eq_none (by rw [updF_len]; omega),List.getElem?_eq_none (by omega)]
theorem OpF.move [KN:Know] {P:Program} {o:Oper} {s:St} {h:List AObj} {av:AV} {x:Operand} (ho:o.op = .move x) (ha:aeval (restrictH o s h) x = av):OpF P o s [] none h av h:=by
 intro hh hhl _ I μ a w R _ next Q hk
 have hr:(execOp a.eval o).run P w = .ok (.value (a.eval x)) w:=by simp only [execOp,ho,Sem.run_pure]
 unfold Oper.wp
 rw [hr]
 refine hk I μ (a.eval x) w (fun k _ _=>?_) ?_ (Step.refl _ _ _) (MM.SubN.refl μ) (fun _ _=>rfl) (fun _ _ _=>.inl rfl)
 ·have h1:=R.eval x
  have h2:aeval (restrictH o s hh) x = av:=by rw [← ha]; cases x <;> rfl
  rwa [h2] at h1
 ·rw [updF_none]; exact R.heap
theorem FNode.mv [KN:Know] {P:Program} {o:Oper} {st:St} {W:List Nat} {K:AV → List AObj → Prop} (av:AV) {x:Operand} (ho:o.op = .move x) (ha:aeval (restrictH o st st.h) x = av) (h4:K av st.h):FNode P o st [] W none K :=
 ⟨av,st.h,OpF.move ho ha,rfl,fun _ _=>rfl,h4⟩
end Go.Q
namespace Go.Q
open Go
theorem WV.refL {h:List AObj} {keep frz:List Nat} {m o off len len':Nat} (i:Nat) (hk:keep[i]? = some o) (hl:len' = len):WV h keep frz m (.ref o off len) (.ref i off len'):=by subst hl; exact .ref _ _ _ i hk
theorem WO.arrM {α:Type} {h:List AObj} {keep frz:List Nat} {m s k:Nat} {f:α → AV} {l:List α}:WO h keep frz m (.arr s (l.map f)) (.arr s ((l.take k).map f)):=by rw [List.map_take]; exact .arrP s k _
end Go.Q
namespace Go.Q
open Go
end Go.Q
