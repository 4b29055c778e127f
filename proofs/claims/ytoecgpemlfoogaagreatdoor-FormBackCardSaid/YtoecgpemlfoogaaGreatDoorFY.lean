import Derived.Test.YtoecgpemlfoogaaGreatDoorFX
import Derived.WalkSpells
namespace Go.Q
open Go
def MM.SubN (μ μ':MM):Prop:=∀ (o:Nat) (x:Slot),μ[o]? = some x → μ'[o]? = some x ∨ μ'[o]? = some .gone ∨ (x = .nil ∧ ∃ l,μ'[o]? = some (.at l))
theorem RelV.subN {I:Nat → Prop} {w:World} {μ μ':MM} (hs:μ.SubN μ') {a:AV} {v:Value} (h:RelV I w μ a v):RelV I w μ' a v:=by
 have at':∀ {o:Nat} {l:Loc},μ.loc o = some l → μ'.loc o = some l ∨ μ'[o]? = some .gone:=fun {o l} hl=>by
  rcases hs o _ (MM.loc_some.1 hl) with h1 | h1 | ⟨h1,_⟩
  ·exact .inl (MM.loc_some.2 h1)
  ·exact .inr h1
  ·cases h1
 have gone':∀ {o:Nat},μ[o]? = some .gone → μ'[o]? = some .gone:=fun {o} hl=>by
  rcases hs o _ hl with h1 | h1 | ⟨h1,_⟩
  ·exact h1
  ·exact h1
  ·cases h1
 induction h generalizing μ' with
 | undef=>exact .undef ..
 | lit=>exact .lit ..
 | nils=>exact .nils ..
 | agg μ cs xs hn _ ih=>exact .agg _ cs xs hn (fun i hi=>ih i hi hs at' gone')
 | tup μ cs xs hn _ ih=>exact .tup _ cs xs hn (fun i hi=>ih i hi hs at' gone')
 | vs μ s es a cap val hcap ha hn hv ih=>exact .vs _ s es a cap val hcap ha hn hv
 | ref μ o off len cap l hl hlen hcap=>exact (at' hl).elim (fun h=>.ref _ o off len cap l h hlen hcap) (fun h=>.refX _ o off len _ h)
 | ref0 μ o hl =>
  rcases hs o _ hl with h1 | h1 | ⟨_,l,h1⟩
  ·exact .ref0 _ o h1
  ·exact .refX _ o 0 0 _ h1
  ·exact .refE _ o 0 l none (MM.loc_some.2 h1)
 | refE μ o off l a hl=>exact (at' hl).elim (fun h=>.refE _ o off l a h) (fun h=>.refX _ o off 0 _ h)
 | refX μ o off len v hl=>exact .refX _ o off len v (gone' hl)
 | ptrX μ o j v hl=>exact .ptrX _ o j v (gone' hl)
 | eptrX μ o i j v hl=>exact .eptrX _ o i j v (gone' hl)
 | ptr μ o j l hl=>exact (at' hl).elim (fun h=>.ptr _ o j l h) (fun h=>.ptrX _ o j _ h)
 | eptr μ o i j l hl=>exact (at' hl).elim (fun h=>.eptr _ o i j l h) (fun h=>.eptrX _ o i j _ h)
 | iptr μ c b off val hb hc hv ih=>exact .iptr _ c b off val hb hc hv
 | fn μ f first captured fs cs hf hc _ _ ih1 ih2=>exact .fn _ f first captured fs cs hf hc (fun i hi=>ih1 i hi hs at' gone') (fun i hi=>ih2 i hi hs at' gone')
theorem MM.SubN.refl (μ:MM):MM.SubN μ μ:=fun _ _ h=>.inl h
def maskF (F:List Nat):Nat → List AObj → List AObj
 | _,[]=>[]
 | i,o :: r=>(match F.contains i with | true=>o | false=>.dead) :: maskF F (i + 1) r
def maskM (F:List Nat):Nat → MM → MM
 | _,[]=>[]
 | i,o :: r=>(match F.contains i with | true=>o | false=>.gone) :: maskM F (i + 1) r
theorem maskF_len (F:List Nat):∀ (h:List AObj) (i:Nat),(maskF F i h).length = h.length
 | [],_=>rfl
 | o :: r,i=>by simp [maskF,maskF_len F r (i + 1)]
theorem maskM_len (F:List Nat):∀ (h:MM) (i:Nat),(maskM F i h).length = h.length
 | [],_=>rfl
 | o :: r,i=>by simp [maskM,maskM_len F r (i + 1)]
theorem maskF_get (F:List Nat):∀ (h:List AObj) (i k:Nat),(maskF F i h)[k]? = (h[k]?).map fun o=>match F.contains (i + k) with | true=>o | false=>.dead
 | [],_,k=>by simp [maskF]
 | o :: r,i,0=>by simp [maskF]
 | o :: r,i,k + 1=>by
  simp only [maskF,List.getElem?_cons_succ]
  rw [maskF_get F r (i + 1) k,show i + 1 + k = i + (k + 1) by omega]
theorem maskM_get (F:List Nat):∀ (h:MM) (i k:Nat),(maskM F i h)[k]? = (h[k]?).map fun o=>match F.contains (i + k) with | true=>o | false=>.gone
 | [],_,k=>by simp [maskM]
 | o :: r,i,0=>by simp [maskM]
 | o :: r,i,k + 1=>by
  simp only [maskM,List.getElem?_cons_succ]
  rw [maskM_get F r (i + 1) k,show i + 1 + k = i + (k + 1) by omega]
theorem maskM_sub (F:List Nat) (μ:MM):MM.Sub μ (maskM F 0 μ):=fun o x h=>by
 rw [maskM_get,h,Option.map_some,Nat.zero_add]
 cases F.contains o with
 | true=>exact .inl rfl
 | false=>exact .inr rfl
theorem maskM_in {F:List Nat} {μ:MM} {o:Nat} (h:F.contains o = true):(maskM F 0 μ)[o]? = μ[o]?:=by
 rw [maskM_get,Nat.zero_add,h]
 cases μ[o]? <;> rfl
theorem maskM_loc {F:List Nat} {μ:MM} {o:Nat} {l:Loc} (h:(maskM F 0 μ).loc o = some l):F.contains o = true ∧ μ.loc o = some l:=by
 have h1:=MM.loc_some.1 h
 rw [maskM_get,Nat.zero_add] at h1
 cases hc:F.contains o with
 | true =>
  rw [hc] at h1
  refine ⟨rfl,MM.loc_some.2 ?_⟩
  cases hm:μ[o]? with
  | none=>rw [hm] at h1; cases h1
  | some x=>rw [hm] at h1; exact h1
 | false =>
  rw [hc] at h1
  cases hm:μ[o]? with
  | none=>rw [hm] at h1; cases h1
  | some x=>rw [hm] at h1; cases h1
def updF (F:List Nat) (h h':List AObj):List AObj:=(List.range h.length).map fun k=>match F.contains k with | true=>h'.getD k .dead | false=>h.getD k .dead
theorem updF_len (F:List Nat) (h h':List AObj):(updF F h h').length = h.length:=by simp [updF]
theorem updF_get {F:List Nat} {h h':List AObj} {k:Nat} (hk:k < h.length):(updF F h h')[k]? = some (match F.contains k with | true=>h'.getD k .dead | false=>h.getD k .dead):=by
 simp [updF,hk]
def fit1 (p:Nat → Bool):AV → Bool
 | .agg cs=>cs.all (fitQ p)
 | .tup cs=>cs.all (fitQ p)
 | v=>fitQ p v
theorem fit1_rel [KN:Know] {I:Nat → Prop} {w:World} {μ μ':MM} {p:Nat → Bool} (hμ:∀ o,p o = true → μ'[o]? = μ[o]?) {v:AV} {x:Value} (hf:fit1 p v = true) (h:RelV I w μ v x):RelV I w μ' v x:=by
 cases h with
 | agg _ cs xs hn hc=>exact .agg _ cs xs hn (fun i hi=>fit_rel hμ (List.all_eq_true.1 hf _ (List.getElem_mem hi)) (hc i hi))
 | tup _ cs xs hn hc=>exact .tup _ cs xs hn (fun i hi=>fit_rel hμ (List.all_eq_true.1 hf _ (List.getElem_mem hi)) (hc i hi))
 | undef=>exact .undef _ _
 | ref _ o off len cap l hl hlen hcap=>exact fit_rel hμ hf (.ref _ o off len cap l hl hlen hcap)
 | ref0 _ o hl=>exact fit_rel hμ hf (.ref0 _ o hl)
 | refE _ o off l a hl=>exact fit_rel hμ hf (.refE _ o off l a hl)
 | refX _ o off len _ hl=>exact fit_rel hμ hf (.refX _ o off len _ hl)
 | ptrX _ o j _ hl=>exact fit_rel hμ hf (.ptrX _ o j _ hl)
 | eptrX _ o i j _ hl=>exact fit_rel hμ hf (.eptrX _ o i j _ hl)
 | ptr _ o j l hl=>exact fit_rel hμ hf (.ptr _ o j l hl)
 | eptr _ o i j l hl=>exact fit_rel hμ hf (.eptr _ o i j l hl)
 | lit=>exact .lit _ _
 | nils=>exact .nils _
 | vs _ s es a cap val hcap ha hn hv=>exact .vs _ s es a cap val hcap ha hn hv
 | iptr _ c b off val hb hc hv=>exact .iptr _ c b off val hb hc hv
 | fn _ f a b fs cs hf' hc h1 h2=>exact fit_rel hμ hf (.fn _ f a b fs cs hf' hc h1 h2)
def OpF [KN:Know] (P:Program) (o:Oper) (s:St) (F:List Nat) (R:Option Nat) (h:List AObj) (av:AV) (h':List AObj):Prop :=
 ∀ hh,hh.length = h.length → (∀ k,F.contains k = true → hh[k]? = h[k]?) →
 ∀ I μ a w,Rel I μ (restrictH o s hh) a w → (∀ r,R = some r → μ[r]? = some .nil) → ∀ (next:Act → World → Prop) (Q:Exit → Act → World → Prop),
  (∀ I' μ' v w',(∀ k,o.dst = some k → k < s.n → RelV I' w' μ' av v) → RelH I' μ' (updF F hh h') w' → Step I μ w I' μ' w' → MM.SubN μ μ' → (∀ k,F.contains k = false → μ'[k]? = μ[k]?) →
   (∀ k,k < h.length → R ≠ some k → μ'[k]? = μ[k]? ∨ μ'[k]? = some .gone) → next (a.put o.dst v) w') → o.wp P a w next Q
theorem owns_of {μ:MM} {o:Nat} {l:Loc} (h:μ.loc o = some l):μ.owns l.block:=⟨o,l,h,rfl⟩
theorem OpF.back [KN:Know] {I I':Nat → Prop} {μ ν:MM} {w w':World} {hh h' hν:List AObj} {F:List Nat} {R:Option Nat} {p:Nat → Bool} (t:Nat → Nat) (H:RelH I μ hh w) (H1:RelH I' ν hν w') (S1:Step I (maskM F 0 μ) w I' ν w')
  (ht:∀ k,F.contains k = true → k < hh.length → t k < ν.length) (hi:∀ k k',F.contains k = true → k < hh.length → F.contains k' = true → k' < hh.length → t k = t k' → k = k')
  (hp:∀ k,p k = true → F.contains k = true ∧ k < hh.length ∧ t k = k)
  (hob:∀ k,F.contains k = true → k < hh.length → hν[t k]? = some (h'.getD k .dead) ∧ fitO p (h'.getD k .dead) = true)
  (hslot:∀ k,F.contains k = true → k < hh.length → ν[t k]? = μ[k]? ∨ ν[t k]? = some .gone ∨ (R = some k ∧ μ[k]? = some .nil))
  (hnil:∀ k x,F.contains k = true → k < hh.length → μ[k]? = some .nil → ν[t k]? = some x → x = .nil ∨ x = .gone ∨ ∃ l,x = .at l) :
  ∃ μ':MM,RelH I' μ' (updF F hh h') w' ∧ Step I μ w I' μ' w' ∧ MM.SubN μ μ' ∧ (∀ k,F.contains k = false → μ'[k]? = μ[k]?) ∧ (∀ k,k < hh.length → R ≠ some k → μ'[k]? = μ[k]? ∨ μ'[k]? = some .gone) ∧
   (∀ k,F.contains k = true → k < hh.length → μ'[k]? = ν[t k]?) ∧ (∀ a v,RelV I w μ a v → RelV I' w' μ' a v):=by
 have hlen:μ.length = hh.length:=H.len
 let μ':MM:=(List.range hh.length).map fun k=>match F.contains k with | true=>ν.getD (t k) .gone | false=>μ.getD k .gone
 have gin:∀ k,F.contains k = true → k < hh.length → μ'[k]? = ν[t k]?:=fun k hk hl=>by
  have h1:=ht k hk hl
  simp only [μ',List.getElem?_map,List.getElem?_range hl,Option.map_some,hk,List.getD]
  rw [List.getElem?_eq_getElem h1]; rfl
 have gout:∀ k,F.contains k = false → μ'[k]? = μ[k]?:=fun k hk=>by
  rcases Nat.lt_or_ge k hh.length with hl | hl
  ·simp only [μ',List.getElem?_map,List.getElem?_range hl,Option.map_some,hk,List.getD]
   rw [List.getElem?_eq_getElem (by omega:k < μ.length)]; rfl
  ·rw [List.getElem?_eq_none (by simp [μ']; omega),List.getElem?_eq_none (by omega)]
 have len':μ'.length = hh.length:=by simp [μ']
 have hsub:MM.SubN μ μ':=fun o x hx=>by
  have hlt:o < hh.length:=by rw [← hlen]; exact (List.getElem?_eq_some_iff.1 hx).1
  cases hc:F.contains o with
  | false=>exact .inl (by rw [gout o hc]; exact hx)
  | true =>
   rw [gin o hc hlt]
   rcases hslot o hc hlt with h1 | h1 | ⟨_,h1⟩
   ·exact .inl (h1.trans hx)
   ·exact .inr (.inl h1)
   ·rw [h1] at hx
    cases hx
    have h2:=List.getElem?_eq_getElem (ht o hc hlt)
    rcases hnil o _ hc hlt h1 h2 with h3 | h3 | ⟨l,h3⟩
    ·exact .inl (by rw [h2,h3])
    ·exact .inr (.inl (by rw [h2,h3]))
    ·exact .inr (.inr ⟨rfl,l,by rw [h2,h3]⟩)
 have locin:∀ o l,μ'.loc o = some l → (F.contains o = true ∧ o < hh.length ∧ ν.loc (t o) = some l) ∨ (F.contains o = false ∧ μ.loc o = some l):=fun o l hl=>by
  have h0:=MM.loc_some.1 hl
  have hlt:o < hh.length:=by rw [← len']; exact (List.getElem?_eq_some_iff.1 h0).1
  cases hc:F.contains o with
  | true=>exact .inl ⟨rfl,hlt,MM.loc_some.2 ((gin o hc hlt).symm.trans h0)⟩
  | false=>exact .inr ⟨rfl,MM.loc_some.2 ((gout o hc).symm.trans h0)⟩
 have beside:∀ o l,F.contains o = false → μ.loc o = some l → ¬ ν.owns l.block:=fun o l hc hl hn=>by
  rcases S1.own _ hn with ⟨o',l',h1,h2⟩ | h1
  ·obtain ⟨h3,h4⟩:=maskM_loc h1
   have:=H.apart o' o l' l h4 hl h2
   subst this
   rw [hc] at h3; cases h3
  ·have:=H.size_owned (owns_of hl); omega
 have besideM:∀ o l,F.contains o = false → μ.loc o = some l → ¬ (maskM F 0 μ).owns l.block:=fun o l hc hl ⟨o',l',h1,h2⟩=>by
  obtain ⟨h3,h4⟩:=maskM_loc h1
  have:=H.apart o' o l' l h4 hl h2
  subst this
  rw [hc] at h3; cases h3
 have ownM:∀ b,(maskM F 0 μ).owns b → μ.owns b:=fun b ⟨o,l,h1,h2⟩=>⟨o,l,(maskM_loc h1).2,h2⟩
 have keepI:∀ b,I b → w'.heap[b]? = w.heap[b]?:=fun b hb=>S1.same b (H.imm b hb) (fun h=>H.notI b (ownM b h) hb)
 have hrel:∀ a v,RelV I w μ a v → RelV I' w' μ' a v:=fun a v h=>(h.subN hsub).mono S1.mono keepI
 refine ⟨μ',⟨by rw [updF_len,len'],fun o ob x h1 h2=>?_,fun b hb hI=>?_,fun o o' l l' h1 h2 e=>?_,H1.imm,H1.know⟩,⟨S1.mono,S1.grow,fun b hb hn=>S1.same b hb (fun h=>hn (ownM b h)),fun b hb=>?_,fun b hb=>?_,S1.ext⟩,hsub,gout,fun k hk hR=>?_,gin,hrel⟩
 ·have hlt:o < hh.length:=by rw [← len']; exact (List.getElem?_eq_some_iff.1 h2).1
  rw [updF_get hlt] at h1
  cases hc:F.contains o with
  | true =>
   rw [hc] at h1
   simp only [Option.some.injEq] at h1
   subst h1
   obtain ⟨h3,h4⟩:=hob o hc hlt
   rw [gin o hc hlt] at h2
   refine fit_obj (p:=p) (fun k hk=>?_) (fun _ h=>h) (fun _ _=>rfl) h4 (fun _ _=>rfl) (H1.objs _ _ _ h3 h2)
   obtain ⟨h5,h6,h7⟩:=hp k hk
   rw [gin k h5 h6,h7]
  | false =>
   rw [hc] at h1
   simp only [Option.some.injEq] at h1
   rw [gout o hc] at h2
   have h3:=H.objs o ob x (by rw [← h1]; simp only [List.getD]; rw [List.getElem?_eq_getElem hlt]; rfl) h2
   refine h3.mono S1.mono keepI (fun a v h=>h.subN hsub) (fun l hl=>?_)
   subst hl
   exact S1.same _ (H.size_owned (owns_of (MM.loc_some.2 h2))) (besideM o l hc (MM.loc_some.2 h2))
 ·obtain ⟨o,l,hl,rfl⟩:=hb
  rcases locin o l hl with ⟨_,_,h1⟩ | ⟨hc,h1⟩
  ·exact H1.notI _ (owns_of h1) hI
  ·rcases S1.imm _ hI with h2 | h2 | h2
   ·exact H.notI _ (owns_of h1) h2
   ·exact besideM o l hc h1 h2
   ·have:=H.size_owned (owns_of h1); omega
 ·rcases locin o l h1 with ⟨a1,a2,a3⟩ | ⟨a1,a2⟩ <;> rcases locin o' l' h2 with ⟨b1,b2,b3⟩ | ⟨b1,b2⟩
  ·exact hi o o' a1 a2 b1 b2 (H1.apart _ _ l l' a3 b3 e)
  ·exact absurd (e ▸ owns_of a3) (beside o' l' b1 b2)
  ·exact absurd (e ▸ owns_of b3) (beside o l a1 a2)
  ·exact H.apart o o' l l' a2 b2 e
 ·obtain ⟨o,l,hl,rfl⟩:=hb
  rcases locin o l hl with ⟨_,_,h1⟩ | ⟨_,h1⟩
  ·exact (S1.own _ (owns_of h1)).imp (ownM _) id
  ·exact .inl (owns_of h1)
 ·exact (S1.imm b hb).imp id (Or.imp (ownM b) id)
 ·cases hc:F.contains k with
  | false=>exact .inl (gout k hc)
  | true =>
   rw [gin k hc hk]
   rcases hslot k hc hk with h1 | h1 | ⟨h1,_⟩
   ·exact .inl h1
   ·exact .inr h1
   ·exact absurd h1 hR
theorem contains_and {F:List Nat} {N k:Nat} (h:(F.contains k && Nat.blt k N) = true):F.contains k = true ∧ k < N:=by
 rw [Bool.and_eq_true] at h
 exact ⟨h.1,Nat.le_of_ble_eq_true h.2⟩
theorem maskF_same {F:List Nat} {h hh:List AObj} (hl:hh.length = h.length) (hag:∀ k,F.contains k = true → hh[k]? = h[k]?):maskF F 0 hh = maskF F 0 h:=by
 apply List.ext_getElem?
 intro k
 rw [maskF_get,maskF_get,Nat.zero_add]
 cases hc:F.contains k with
 | true=>rw [hag k hc]
 | false =>
  rcases Nat.lt_or_ge k h.length with h1 | h1
  ·rw [List.getElem?_eq_getElem h1,List.getElem?_eq_getElem (by omega)]; rfl
  ·rw [List.getElem?_eq_none h1,List.getElem?_eq_none (by omega)]
theorem Rel.mask [KN:Know] {I:Nat → Prop} {μ:MM} {o:Oper} {s:St} {a:Act} {w:World} {hh:List AObj} (F:List Nat) (R:Rel I μ (restrictH o s hh) a w):Rel I (maskM F 0 μ) (restrictH o s (maskF F 0 hh)) a w:=by
 have hsub:=maskM_sub F μ
 refine ⟨fun t=>(R.tmps t).sub hsub,R.size,R.defers,⟨?_,fun k ob x h1 h2=>?_,fun b hb=>?_,fun k k' l l' h1 h2 e=>R.heap.apart k k' l l' (maskM_loc h1).2 (maskM_loc h2).2 e,R.heap.imm,R.heap.know⟩⟩
 ·show (maskM F 0 μ).length = (maskF F 0 hh).length
  rw [maskM_len,maskF_len]; exact R.heap.len
 ·rw [show (restrictH o s (maskF F 0 hh)).h = maskF F 0 hh from rfl,maskF_get,Nat.zero_add] at h1
  rw [maskM_get,Nat.zero_add] at h2
  cases hk:hh[k]? with
  | none=>rw [hk] at h1; cases h1
  | some ob0 =>
   cases hm:μ[k]? with
   | none=>rw [hm] at h2; cases h2
   | some x0 =>
    rw [hk] at h1
    rw [hm] at h2
    cases hc:F.contains k with
    | true =>
     rw [hc] at h1 h2
     cases h1; cases h2
     exact (R.heap.objs k _ _ hk hm).mono (fun _ h=>h) (fun _ _=>rfl) (fun _ _ h=>h.sub hsub) (fun _ _=>rfl)
    | false =>
     rw [hc] at h1 h2
     cases h1; cases h2
     exact .dead
 ·obtain ⟨k,l,hl,rfl⟩:=hb
  exact R.heap.notI _ (owns_of (maskM_loc hl).2)
theorem OpF.plain [KN:Know] {P:Program} {o:Oper} {s:St} {F:List Nat} {h h':List AObj} {av:AV} (hM:MO P o s (maskF F 0 h) av (maskF F 0 h')) (hl:h'.length = h.length)
  (hA:fit1 (fun k=>F.contains k && Nat.blt k h.length) av = true) (hO:(maskF F 0 h').all (fitO (fun k=>F.contains k && Nat.blt k h.length)) = true):OpF P o s F none h av h':=by
 intro hh hhl hag I μ a w R _ next Q hk
 have hmask:=maskF_same hhl hag
 have R0:=R.mask F
 rw [hmask] at R0
 refine hM I (maskM F 0 μ) a w R0 (by rw [R0.heap.len]; exact Nat.le_refl _) next Q (fun I' ν st' v w' e R1 S1 p1=>?_)
 subst e
 have H1:RelH I' ν (maskF F 0 h') w':=R1.heap
 have hν:ν.length = h.length:=by rw [H1.len,maskF_len,hl]
 have hmem:∀ k,F.contains k = true → k < h.length → (maskF F 0 h')[k]? = some (h'.getD k .dead):=fun k hc hk=>by
  rw [maskF_get,Nat.zero_add,hc]
  simp only [List.getD]
  rw [List.getElem?_eq_getElem (by omega:k < h'.length)]; rfl
 have hst:∀ k,F.contains k = true → k < h.length → ν[k]? = μ[k]? ∨ ν[k]? = some .gone:=fun k hc hk=>by
  rw [← maskM_in (μ:=μ) hc]
  exact p1.2 k (by rw [maskF_len]; exact hk)
 obtain ⟨μ',b1,b2,b3,b4,b5,b6,b7⟩:=OpF.back (h':=h') (R:=none) (p:=fun k=>F.contains k && Nat.blt k h.length) id R.heap H1 S1 (fun k _ h1=>by show k < _; rw [hν]; have:(restrictH o s hh).h.length = hh.length:=rfl; omega) (fun _ _ _ _ _ _ h=>h)
  (fun k hk=>⟨(contains_and hk).1,by have:=(contains_and hk).2; show k < hh.length; omega,rfl⟩) (fun k hc h1=>by
   have h1':k < hh.length:=h1
   have:=hmem k hc (by omega)
   exact ⟨this,List.all_eq_true.1 hO _ (List.mem_of_getElem? this)⟩) (fun k hc h1=>by
   have h1':k < hh.length:=h1
   exact (hst k hc (by omega)).imp id .inl) (fun k x hc h1 h2 h3=>by
   have h1':k < hh.length:=h1
   have h3':ν[k]? = some x:=h3
   rcases hst k hc (by omega) with h4 | h4
   ·rw [h4,h2] at h3'; cases h3'; exact .inl rfl
   ·rw [h4] at h3'; cases h3'; exact .inr (.inl rfl))
 refine hk I' μ' v w' (fun k hd hkn=>?_) b1 b2 b3 b4 (fun k h1 h2=>b5 k (by show k < hh.length; omega) h2)
 have hv:=R1.tmps k
 have hget:({ (restrictH o s (maskF F 0 h)).put o.dst av with h:=maskF F 0 h' }:St).get k = ((restrictH o s (maskF F 0 h)).put o.dst av).get k:=rfl
 rw [hget,put_get,if_pos ⟨hd,by exact hkn⟩] at hv
 have hlt:k < a.tmps.size:=by rw [R.size]; exact hkn
 rw [hd,show (a.put (some k) v).tmps.getD k Go.undef = v by simp [Act.put,Array.getD,hlt]] at hv
 exact fit1_rel (p:=fun k=>F.contains k && Nat.blt k h.length) (fun q hq=>b6 q (contains_and hq).1 (by have:=(contains_and hq).2; show q < hh.length; omega)) hA hv
theorem new_rel {I:Nat → Prop} {w:World} {ν μ':MM} {N r:Nat} (h:μ'[r]? = ν[N]?) {av0 av:AV} {v:Value} (hav:(∃ j,av0 = .ptr N j ∧ av = .ptr r j) ∨ (∃ a b,av0 = .ref N a b ∧ av = .ref r a b)) (hv:RelV I w ν av0 v):RelV I w μ' av v:=by
 have hloc:∀ l,ν.loc N = some l → μ'.loc r = some l:=fun l hl=>MM.loc_some.2 (h.trans (MM.loc_some.1 hl))
 rcases hav with ⟨j,rfl,rfl⟩ | ⟨a,b,rfl,rfl⟩
 ·cases hv with
  | ptrX _ _ _ _ hl=>exact .ptrX _ r j _ (h.trans hl)
  | ptr _ _ _ l hl=>exact .ptr _ r j l (hloc l hl)
 ·cases hv with
  | ref _ _ _ _ cap l hl hlen hcap=>exact .ref _ r a b cap l (hloc l hl) hlen hcap
  | ref0 _ _ hl=>exact .ref0 _ r (h.trans hl)
  | refE _ _ _ l q hl=>exact .refE _ r a l q (hloc l hl)
  | refX _ _ _ _ _ hl=>exact .refX _ r a b _ (h.trans hl)
theorem contains_new {F:List Nat} {N r k:Nat} (h:(F.contains k && Nat.blt k N && !(Nat.beq k r)) = true):F.contains k = true ∧ k < N ∧ k ≠ r:=by
 rw [Bool.and_eq_true,Bool.not_eq_true'] at h
 refine ⟨(contains_and h.1).1,(contains_and h.1).2,fun e=>?_⟩
 subst e
 rw [Nat.beq_refl] at h
 cases h.2
theorem OpF.new [KN:Know] {P:Program} {o:Oper} {s:St} {F:List Nat} {r:Nat} {h h' g:List AObj} {ob:AObj} {av0 av:AV} (hM:MO P o s (maskF F 0 h) av0 (g ++ [ob])) (hl:h'.length = h.length) (hg:g.length = h.length)
  (hr:(F.contains r && Nat.blt r h.length) = true) (hm:maskF F 0 h' = g.set r ob) (hgr:∃ z,g[r]? = some (.arr z []))
  (hav:(∃ j,av0 = .ptr h.length j ∧ av = .ptr r j) ∨ (∃ a b,av0 = .ref h.length a b ∧ av = .ref r a b)) (hO:(maskF F 0 h').all (fitO (fun k=>F.contains k && Nat.blt k h.length && !(Nat.beq k r))) = true):OpF P o s F (some r) h av h':=by
 intro hh hhl hag I μ a w R hR next Q hk
 obtain ⟨hrF,hrN⟩:=contains_and hr
 have hmask:=maskF_same hhl hag
 have R0:=R.mask F
 rw [hmask] at R0
 refine hM I (maskM F 0 μ) a w R0 (by rw [R0.heap.len]; exact Nat.le_refl _) next Q (fun I' ν st' v w' e R1 S1 p1=>?_)
 subst e
 have H1:RelH I' ν (g ++ [ob]) w':=R1.heap
 have hν:ν.length = h.length + 1:=by rw [H1.len,List.length_append,hg]; rfl
 have hmem:∀ k,F.contains k = true → k < h.length → (maskF F 0 h')[k]? = some (h'.getD k .dead):=fun k hc hk=>by
  rw [maskF_get,Nat.zero_add,hc]
  simp only [List.getD]
  rw [List.getElem?_eq_getElem (by omega:k < h'.length)]; rfl
 have hst:∀ k,F.contains k = true → k < h.length → ν[k]? = μ[k]? ∨ ν[k]? = some .gone:=fun k hc hk=>by
  rw [← maskM_in (μ:=μ) hc]
  exact p1.2 k (by rw [maskF_len]; exact hk)
 obtain ⟨μ',b1,b2,b3,b4,b5,b6,b7⟩:=OpF.back (h':=h') (R:=some r) (p:=fun k=>F.contains k && Nat.blt k h.length && !(Nat.beq k r)) (fun k=>if k = r then h.length else k) R.heap H1 S1
  (fun k _ h1=>by have h1':k < hh.length:=h1; rw [hν]; show (if k = r then h.length else k) < _; split <;> omega)
  (fun k k' _ h1 _ h2 e=>by
   have h1':k < hh.length:=h1
   have h2':k' < hh.length:=h2
   have e':(if k = r then h.length else k) = (if k' = r then h.length else k'):=e
   split at e' <;> split at e' <;> omega)
  (fun k hk=>⟨(contains_new hk).1,by have:=(contains_new hk).2.1; show k < hh.length; omega,if_neg (contains_new hk).2.2⟩) (fun k hc h1=>by
   have h1':k < hh.length:=h1
   have h2:=hmem k hc (by omega)
   refine ⟨?_,List.all_eq_true.1 hO _ (List.mem_of_getElem? h2)⟩
   rw [hm] at h2
   by_cases hkr:k = r
   ·subst hkr
    rw [if_pos rfl,List.getElem?_append_right (by omega),hg,Nat.sub_self]
    rw [List.getElem?_set_self (by omega)] at h2
    rw [← h2]; rfl
   ·rw [if_neg hkr,List.getElem?_append_left (by omega)]
    rw [List.getElem?_set_ne (fun e=>hkr e.symm)] at h2
    exact h2) (fun k hc h1=>by
   have h1':k < hh.length:=h1
   by_cases hkr:k = r
   ·subst hkr; exact .inr (.inr ⟨rfl,hR k rfl⟩)
   ·rw [if_neg hkr]; exact (hst k hc (by omega)).imp id .inl) (fun k x hc h1 h2 h3=>by
   have h1':k < hh.length:=h1
   by_cases hkr:k = r
   ·cases x with
    | gone=>exact .inr (.inl rfl)
    | nil=>exact .inl rfl
    | «at» l=>exact .inr (.inr ⟨l,rfl⟩)
   ·rw [if_neg hkr] at h3
    rcases hst k hc (by omega) with h4 | h4
    ·rw [h4,h2] at h3; cases h3; exact .inl rfl
    ·rw [h4] at h3; cases h3; exact .inr (.inl rfl))
 refine hk I' μ' v w' (fun k hd hkn=>?_) b1 b2 b3 b4 (fun k h1 h2=>b5 k (by show k < hh.length; omega) h2)
 have hv:=R1.tmps k
 have hget:({ (restrictH o s (maskF F 0 h)).put o.dst av0 with h:=g ++ [ob] }:St).get k = ((restrictH o s (maskF F 0 h)).put o.dst av0).get k:=rfl
 rw [hget,put_get,if_pos ⟨hd,by exact hkn⟩] at hv
 have hlt:k < a.tmps.size:=by rw [R.size]; exact hkn
 rw [hd,show (a.put (some k) v).tmps.getD k Go.undef = v by simp [Act.put,Array.getD,hlt]] at hv
 have h6:=b6 r hrF (by show r < hh.length; omega)
 rw [if_pos rfl] at h6
 exact new_rel h6 hav hv
end Go.Q
namespace Go.Q
open Go
def HSv (H:Nat → List AObj) (W:Nat → List Nat) (S:List Nat):Nat → Nat → Option AObj
 | 0,k=>(H 0)[k]?
 | j + 1,k=>if j ∈ S ∧ (W j).contains k = true then (H (j + 1))[k]? else HSv H W S j k
structure TraceF [KN:Know] (P:Program) (ops:Array Oper) (B:Nat → List Nat) (st0:St) (tr:List AV) (F W:Nat → List Nat) (Rs:Nat → Option Nat) (n0:Nat) (H:Nat → List AObj) (sF:St):Prop where
 h0:H 0 = st0.h
 len:∀ i,i ≤ ops.size → (H i).length = st0.h.length
 same:∀ i k,i < ops.size → (W i).contains k = false → (H (i + 1))[k]? = (H i)[k]?
 sub:∀ i k,i < ops.size → (W i).contains k = true → (F i).contains k = true
 order:∀ i j k,i < j → j < ops.size → ((W i).contains k = true ∧ (F j).contains k = true) ∨ ((F i).contains k = true ∧ (W j).contains k = true) → i ∈ B j
 own:∀ i m r,i < m → m < ops.size → Rs m = some r → (F i).contains r = false
 new:∀ m r,m < ops.size → Rs m = some r → n0 ≤ r ∧ r < st0.h.length ∧ (W m).contains r = true
 one:∀ m m' r,m < m' → m' < ops.size → Rs m = some r → Rs m' ≠ some r
 seq:∀ i o,ops.toList[i]? = some o → seqSt ops.toList tr (i + 1) st0 = (seqSt ops.toList tr i st0).put o.dst (tr.getD i .undef)
 get:∀ d,sF.get d = (seqSt ops.toList tr ops.toList.length st0).get d
 n:sF.n = st0.n
 h:sF.h = H ops.size
 ops:∀ i o,ops.toList[i]? = some o → ∃ s:St,s.n = (seqSt ops.toList tr i st0).n ∧ (∀ d,s.get d = (seqSt ops.toList tr i st0).get d) ∧
  match o.guard with
   | none=>OpF P o s (F i) (Rs i) (H i) (tr.getD i .undef) (H (i + 1))
   | some (j,want)=>∃ d,(ops[j]?).bind (·.dst) = some d ∧ ((∃ b,s.get d = .lit (.bool b) ∧ ((b = want ∧ OpF P o s (F i) (Rs i) (H i) (tr.getD i .undef) (H (i + 1))) ∨ (b ≠ want ∧ tr.getD i .undef = .tup [] ∧ H (i + 1) = H i))) ∨ (s.get d = .tup [] ∧ tr.getD i .undef = .tup [] ∧ H (i + 1) = H i))
theorem TraceF.text [KN:Know] {P:Program} {ops:Array Oper} {B:Nat → List Nat} {st0:St} {tr:List AV} {F W:Nat → List Nat} {Rs:Nat → Option Nat} {n0:Nat} {H:Nat → List AObj} {sF:St} (T:TraceF P ops B st0 tr F W Rs n0 H sF) (k:Nat):∀ i,i ≤ ops.size → HSv H W (List.range ops.size) i k = (H i)[k]?:=by
 intro i
 induction i with
 | zero=>intro _; rfl
 | succ i ih =>
  intro hi
  simp only [HSv]
  cases hc:(W i).contains k with
  | true=>rw [if_pos ⟨by simp; omega,rfl⟩]
  | false=>rw [if_neg (fun h=>by cases h.2),ih (by omega),T.same i k (by omega) hc]
theorem RelH.hold [KN:Know] {I:Nat → Prop} {μ:MM} {h:List AObj} {w:World} (H:RelH I μ h w) (k:Nat):RelH I (μ ++ List.replicate k Slot.nil) (h ++ List.replicate k (.arr 1 [])) w:=by
 have hl:∀ o l,MM.loc (μ ++ List.replicate k Slot.nil) o = some l → μ.loc o = some l:=fun o l h0=>by
  have h1:=MM.loc_some.1 h0
  rcases Nat.lt_or_ge o μ.length with h2 | h2
  ·rw [List.getElem?_append_left h2] at h1; exact MM.loc_some.2 h1
  ·rw [List.getElem?_append_right h2,List.getElem?_replicate] at h1
   split at h1 <;> cases h1
 refine ⟨by simp [H.len],fun o ob x h1 h2=>?_,fun b ⟨o,l,h1,h2⟩=>H.notI b ⟨o,l,hl o l h1,h2⟩,fun o o' l l' h1 h2 e=>H.apart o o' l l' (hl o l h1) (hl o' l' h2) e,H.imm,H.know⟩
 rcases Nat.lt_or_ge o μ.length with h3 | h3
 ·rw [List.getElem?_append_left h3] at h2
  rw [List.getElem?_append_left (by rw [← H.len]; exact h3)] at h1
  exact (H.objs o ob x h1 h2).mono (fun _ h=>h) (fun _ _=>rfl) (fun _ _ h=>h.sub (MM.sub_append _ _)) (fun _ _=>rfl)
 ·rw [List.getElem?_append_right h3,List.getElem?_replicate] at h2
  rw [List.getElem?_append_right (by rw [← H.len]; exact h3),List.getElem?_replicate] at h1
  split at h1
  ·split at h2
   ·cases h1; cases h2; exact .arr0 1
   ·cases h2
  ·cases h1
end Go.Q
namespace Go.Q
open Go
structure FNode [KN:Know] (P:Program) (o:Oper) (st:St) (F W:List Nat) (R:Option Nat) (K:AV → List AObj → Prop):Prop where
 ex:∃ av h',OpF P o st F R st.h av h' ∧ h'.length = st.h.length ∧ (∀ k,W.contains k = false → h'[k]? = st.h[k]?) ∧ K av h'
def mixW (W:List Nat):Nat → List AObj → List AObj → List AObj
 | _,[],_=>[]
 | _,h,[]=>h
 | i,o :: h,o' :: h'=>(match W.contains i with | true=>o' | false=>o) :: mixW W (i + 1) h h'
theorem mixW_get (W:List Nat):∀ (h h':List AObj) (i k:Nat),W.contains (i + k) = false → (mixW W i h h')[k]? = h[k]?
 | [],_,_,_,_=>rfl
 | _ :: _,[],_,_,_=>rfl
 | o :: h,o' :: h',i,0,hw=>by
  simp only [mixW,List.getElem?_cons_zero]
  rw [Nat.add_zero] at hw
  rw [hw]
 | o :: h,o' :: h',i,k + 1,hw=>by
  simp only [mixW,List.getElem?_cons_succ]
  exact mixW_get W h h' (i + 1) k (by rw [show i + 1 + k = i + (k + 1) by omega]; exact hw)
theorem FNode.pl [KN:Know] {P:Program} {o:Oper} {st:St} {F W:List Nat} {K:AV → List AObj → Prop} (av:AV) (h':List AObj)
  (h1:dstep P (maskF F 0 st.h).length o (fun st''=>st'' = { (restrictH o st (maskF F 0 st.h)).put o.dst av with h:=maskF F 0 h' }) (restrictH o st (maskF F 0 st.h)))
  (hl:h'.length = st.h.length) (hA:fit1 (fun k=>F.contains k && Nat.blt k st.h.length) av = true) (hO:(maskF F 0 h').all (fitO (fun k=>F.contains k && Nat.blt k st.h.length)) = true) (hW:mixW W 0 st.h h' = h') (h4:K av h'):FNode P o st F W none K :=
 ⟨av,h',OpF.plain (dstep_ok h1) hl hA hO,hl,fun k hk=>by rw [← hW]; exact mixW_get W _ _ 0 k (by rw [Nat.zero_add]; exact hk),h4⟩
theorem maskF_none:∀ (h:List AObj) (i:Nat) (p:Nat → Bool),(maskF [] i h).all (fitO p) = true
 | [],_,_=>rfl
 | _ :: h,i,p=>by
  simp only [maskF,List.contains_nil,List.all_cons,maskF_none h (i + 1) p,Bool.and_true]; rfl
theorem FNode.no [KN:Know] {P:Program} {o:Oper} {st:St} {W:List Nat} {K:AV → List AObj → Prop} (av:AV)
  (h1:dstep P (maskF [] 0 st.h).length o (fun st''=>st'' = { (restrictH o st (maskF [] 0 st.h)).put o.dst av with h:=maskF [] 0 st.h }) (restrictH o st (maskF [] 0 st.h)))
  (hA:fit1 (fun _=>false) av = true) (h4:K av st.h):FNode P o st [] W none K :=
 ⟨av,st.h,OpF.plain (dstep_ok h1) rfl (by
  rw [show (fun k=>([]:List Nat).contains k && Nat.blt k st.h.length) = fun _=>false from funext fun k=>by simp]; exact hA) (maskF_none _ _ _),rfl,fun _ _=>rfl,h4⟩
def OpFm [KN:Know] (P:Program) (ops:Array Oper) (Fs Ws:List (List Nat)) (Rs:List (Option Nat)) (i:Nat) (o:Oper) (st:St) (av:AV) (h':List AObj):Prop :=
 ∃ s:St,s.n = st.n ∧ (∀ d,s.get d = st.get d) ∧ h'.length = st.h.length ∧ (∀ k,(Ws.getD i []).contains k = false → h'[k]? = st.h[k]?) ∧ match o.guard with
  | none=>OpF P o s (Fs.getD i []) (Rs.getD i none) st.h av h'
  | some (j,want)=>∃ d,(ops[j]?).bind (·.dst) = some d ∧ ((∃ b,s.get d = .lit (.bool b) ∧ ((b = want ∧ OpF P o s (Fs.getD i []) (Rs.getD i none) st.h av h') ∨ (b ≠ want ∧ av = .tup [] ∧ h' = st.h))) ∨ (s.get d = .tup [] ∧ av = .tup [] ∧ h' = st.h))
def TraceFm [KN:Know] (P:Program) (ops:Array Oper) (Fs Ws:List (List Nat)) (Rs:List (Option Nat)):List Oper → Nat → List (List AObj) → St → List AV → List (List AObj) → St → Prop
 | [],_,hs,st,tr,HL,sF=>tr = [] ∧ HL = hs ∧ SameSt st sF
 | o :: r,i,hs,st,tr,HL,sF=>∃ av tr' h',tr = av :: tr' ∧ OpFm P ops Fs Ws Rs i o st av h' ∧ TraceFm P ops Fs Ws Rs r (i + 1) (hs ++ [h']) ((⟨st.n,st.ts,h'⟩:St).put o.dst av) tr' HL sF
theorem TraceFm.cong [KN:Know] {P:Program} {ops:Array Oper} {Fs Ws:List (List Nat)} {Rs:List (Option Nat)}:∀ {l:List Oper} {i:Nat} {hs:List (List AObj)} {st st1:St} {tr:List AV} {HL:List (List AObj)} {sF:St},SameSt st st1 → TraceFm P ops Fs Ws Rs l i hs st tr HL sF → TraceFm P ops Fs Ws Rs l i hs st1 tr HL sF
 | [],_,_,_,_,_,_,_,hs,h=>⟨h.1,h.2.1,⟨fun d=>(hs.get d).symm.trans (h.2.2.get d),hs.n.symm.trans h.2.2.n,hs.h.symm.trans h.2.2.h⟩⟩
 | o :: r,i,hs,st,st1,tr,HL,sF,hS,⟨av,tr',h',e,⟨s,h1,h2,h3⟩,h4⟩=>by
  refine ⟨av,tr',h',e,⟨s,h1.trans hS.n,fun d=>(h2 d).trans (hS.get d),by rw [← hS.h]; exact h3⟩,TraceFm.cong ?_ h4⟩
  exact SameSt.put (s:=⟨st.n,st.ts,h'⟩) (t:=⟨st1.n,st1.ts,h'⟩) ⟨fun d=>hS.get d,hS.n,rfl⟩ _ _
end Go.Q
namespace Go.Q
open Go
theorem DrawB.sees [KN:Know] {P:Program} {n id:Nat} {ops:Array Oper} {Q:Exit → St → Prop} {st st':St} (W:Sees n st st') (h:DrawB P n id ops Q st'):DrawB P n id ops Q st:=⟨SWP.sees W h.ok⟩
abbrev GivesN [KN:Know] (P:Program) (g:FuncId) (args:List AV) (s:Nat) (es:List AV):Prop:=ACalls P g args [] (fun r h=>r = .ref 0 0 es.length ∧ h = [.arr s es])
theorem CallN.fresh [KN:Know] {P:Program} {n:Nat} {g:FuncId} {args:List AV} {st:St} {K:St → AV → Prop} {s:Nat} {es:List AV} (h:GivesN P g args s es) (hp:args.all pureQ = true)
  (hK:K ⟨st.n,st.ts,st.h ++ [.arr s es]⟩ (.ref st.h.length 0 es.length)):CallN P n g args st K:=by
 refine ⟨fun I μ a w vals Rl hn hv=>?_⟩
 refine (h I [] w vals (relH_nil Rl.heap.imm Rl.heap.know) ⟨hv.1,fun i hi=>pureQ_ok (List.all_eq_true.1 hp _ (List.getElem_mem hi)) (hv.2 i hi) []⟩).mono ?_
 rintro e w' ⟨v,r,h',I',μ',rfl,⟨rfl,rfl⟩,H',hr,S,_⟩
 have H:=Rl.heap
 have hl':μ'.length = 1:=H'.len
 have nown:∀ b,¬ MM.owns [] b:=fun b ⟨o,l,h1,_⟩=>by simp [MM.loc] at h1
 have keep:∀ b,b < w.heap.size → w'.heap[b]? = w.heap[b]?:=fun b hb=>S.same b hb (nown b)
 have hsub:=MM.sub_append μ μ'
 have split:∀ o l,MM.loc (μ ++ μ') o = some l → (o < μ.length ∧ μ.loc o = some l) ∨ (o = μ.length ∧ μ'.loc 0 = some l):=fun o l h0=>by
  have h1:=MM.loc_some.1 h0
  rcases Nat.lt_or_ge o μ.length with h2 | h2
  ·rw [List.getElem?_append_left h2] at h1; exact .inl ⟨h2,MM.loc_some.2 h1⟩
  ·rw [List.getElem?_append_right h2] at h1
   have h3:=(List.getElem?_eq_some_iff.1 h1).1
   have h4:o - μ.length = 0:=by omega
   rw [h4] at h1
   exact .inr ⟨by omega,MM.loc_some.2 h1⟩
 have new:∀ l,μ'.loc 0 = some l → w.heap.size ≤ l.block:=fun l hl=>(S.own _ (owns_of hl)).resolve_left (nown _)
 refine ⟨v,.ref st.h.length 0 es.length,I',μ ++ μ',⟨st.n,st.ts,st.h ++ [.arr s es]⟩,rfl,hK,⟨fun d=>?_,Rl.size,Rl.defers,⟨?_,fun o ob x h1 h2=>?_,fun b hb hI=>?_,fun o o' l l' h1 h2 e=>?_,H'.imm,H'.know⟩⟩,?_,⟨S.mono,S.grow,fun b hb _=>keep b hb,fun b hb=>?_,fun b hb=>?_,S.ext⟩,⟨by simp; omega,fun o ho=>.inl (List.getElem?_append_left (by omega))⟩⟩
 ·exact ((Rl.tmps d).sub hsub).mono S.mono (fun b hb=>keep b (H.imm b hb))
 ·rw [List.length_append,H.len,hl']; simp
 ·rcases Nat.lt_or_ge o μ.length with h3 | h3
  ·rw [List.getElem?_append_left h3] at h2
   have h1':(st.h ++ [AObj.arr s es])[o]? = some ob:=h1
   rw [List.getElem?_append_left (by rw [← H.len]; exact h3)] at h1'
   refine (H.objs o ob x h1' h2).mono S.mono (fun b hb=>keep b (H.imm b hb)) (fun _ _ h=>h.sub hsub) (fun l hl=>?_)
   subst hl
   exact keep _ (H.size_owned (owns_of (MM.loc_some.2 h2)))
  ·rw [List.getElem?_append_right h3] at h2
   have h1':(st.h ++ [AObj.arr s es])[o]? = some ob:=h1
   rw [List.getElem?_append_right (by rw [← H.len]; exact h3),← H.len] at h1'
   have h4:o - μ.length = 0:=by
    have:=(List.getElem?_eq_some_iff.1 h2).1
    omega
   rw [h4] at h1' h2
   cases h1'
   have h5:=H'.objs 0 _ x rfl h2
   cases h5 with
   | arr0=>exact .arr0 _
   | arr _ _ l val a1 a2 a3 a4 a5 a6=>exact .arr _ _ l val a1 a2 a3 a4 a5 a6
 ·obtain ⟨o,l,hl,rfl⟩:=hb
  rcases split o l hl with ⟨_,h1⟩ | ⟨_,h1⟩
  ·rcases S.imm _ hI with h2 | h2 | h2
   ·exact H.notI _ (owns_of h1) h2
   ·exact nown _ h2
   ·have:=H.size_owned (owns_of h1); omega
  ·exact H'.notI _ (owns_of h1) hI
 ·rcases split o l h1 with ⟨a1,a2⟩ | ⟨a1,a2⟩ <;> rcases split o' l' h2 with ⟨b1,b2⟩ | ⟨b1,b2⟩
  ·exact H.apart o o' l l' a2 b2 e
  ·have:=H.size_owned (owns_of a2)
   have:=new l' b2
   omega
  ·have:=H.size_owned (owns_of b2)
   have:=new l a2
   omega
  ·omega
 ·refine new_rel (ν:=μ') (N:=0) (r:=st.h.length) ?_ (.inr ⟨0,es.length,rfl,rfl⟩) hr
  rw [List.getElem?_append_right (by rw [H.len]; exact Nat.le_refl _),H.len,Nat.sub_self]
 ·obtain ⟨o,l,hl,rfl⟩:=hb
  rcases split o l hl with ⟨_,h1⟩ | ⟨_,h1⟩
  ·exact .inl (owns_of h1)
  ·exact .inr (new l h1)
 ·rcases S.imm b hb with h1 | h1 | h1
  ·exact .inl h1
  ·exact absurd h1 (nown b)
  ·exact .inr (.inr h1)
end Go.Q
namespace Go.Q
open Go
def findE (kind:TypeDesc) (k:Value):List (Value × Value) → Nat → Option (Option (Nat × Value))
 | [],_=>some none
 | (x,v) :: es,i=>match Instr.sameNow kind k x with
  | some true=>some (some (i,v))
  | some false=>findE kind k es (i + 1)
  | none=>none
theorem findNow_eq (kind:TypeDesc) (k:Value):∀ (es:List MapEntry) (i:Nat),Instr.findNow kind k es i = findE kind k (es.map fun e=>(e.key,e.val)) i
 | [],_=>rfl
 | e :: es,i=>by
  simp only [Instr.findNow,List.map_cons,findE]
  cases Instr.sameNow kind k e.key with
  | none=>rfl
  | some b=>cases b with
   | true=>rfl
   | false=>exact findNow_eq kind k es (i + 1)
def SRM [KN:Know] (P:Program) (n:Nat) (ops:Array Oper) (l:List Oper) (ms:List Nat) (es:List (Value × Value)) (N:St → Prop) (st:St):Prop :=
 ∀ I0 μ0 w0 I μ a w b ents clock,Step I0 μ0 w0 I μ w → Pre n μ0 μ → w0.heap.size ≤ b → Rel I μ st a w → ¬ I b → ¬ μ.owns b → (∀ t ∈ ms,t < st.n ∧ a.tmps.getD t Go.undef = .map (some b)) → w.heap[b]? = some (.map ents clock) →
  ents.toList.map (fun e=>(e.key,e.val)) = es → ∀ Q:Exit → Act → World → Prop,(∀ I' μ' st' a' w',N st' → Rel I' μ' st' a' w' → Step I0 μ0 w0 I' μ' w' → Pre n μ0 μ' → Q .normal a' w') → wpList P ops Q l a w
theorem lt_of_heap {w:World} {b:Nat} {o:Obj} (h:w.heap[b]? = some o):b < w.heap.size:=by
 rcases Nat.lt_or_ge b w.heap.size with h1 | h1
 ·exact h1
 ·rw [Array.getElem?_eq_none h1] at h; cases h
theorem put_other {a:Act} {d:Option Nat} {v:Value} {t:Nat} (h:d ≠ some t):(a.put d v).tmps.getD t Go.undef = a.tmps.getD t Go.undef:=by
 cases d with
 | none=>rfl
 | some k =>
  have hk:k ≠ t:=fun e=>h (by rw [e])
  simp only [Act.put]
  by_cases hlt:t < a.tmps.size
  ·simp [Array.getD,hlt]; rw [Array.getElem_setIfInBounds_ne (by simpa using hlt) hk]
  ·simp [Array.getD,hlt]
theorem put_self {a:Act} {v:Value} {t:Nat} (h:t < a.tmps.size):(a.put (some t) v).tmps.getD t Go.undef = v:=by
 simp [Act.put,Array.getD,h]
theorem SRM.start [KN:Know] {P:Program} {n:Nat} {ops:Array Oper} {o:Oper} {r:List Oper} {N:St → Prop} {st:St} {t:TypeId} {d:Nat} (ho:o.op = .makeMap t none) (hg:o.guard = none) (hd:o.dst = some d) (hn:d < st.n)
  (h:SRM P n ops r [d] [] N (st.put (some d) .undef)):SR P n ops (o :: r) N st:=by
 intro I μ a w R hn' Q hQ
 unfold wpList
 rw [if_pos (by simp [Region.wanted,hg])]
 refine .inl ?_
 have hr:(execOp a.eval o).run P w = .ok (.value (.map (some w.heap.size))) (w.alloc (.map #[] 0)):=by
  simp only [execOp,ho,Instr.makeMap,Option.map_none]
  rfl
 unfold Oper.wp
 rw [hr]
 have hold:∀ b,b < w.heap.size → (w.alloc (.map #[] 0)).heap[b]? = w.heap[b]?:=fun b hb=>by
  show (w.heap.push _)[b]? = _
  rw [Array.getElem?_push_lt hb,Array.getElem?_eq_getElem hb]
 have hsz:(w.alloc (.map #[] 0)).heap.size = w.heap.size + 1:=by
  show (w.heap.push _).size = _
  simp
 have hI:∀ b,I b → (w.alloc (.map #[] 0)).heap[b]? = w.heap[b]?:=fun b hb=>hold b (R.heap.imm b hb)
 have R1:Rel I μ st a (w.alloc (.map #[] 0)):=by
  refine ⟨fun q=>(R.tmps q).mono (fun _ h=>h) hI,R.size,R.defers,⟨R.heap.len,fun k ob x hk hx=>?_,R.heap.notI,R.heap.apart,fun b hb=>by rw [hsz]; have:=R.heap.imm b hb; omega,R.heap.know.step (fun _ h=>h) hI⟩⟩
  refine (R.heap.objs k ob x hk hx).mono (fun _ h=>h) hI (fun _ _ h=>h) (fun l e=>hold _ (R.heap.size_owned ⟨k,l,?_,rfl⟩))
  subst e
  exact MM.loc_some.2 hx
 refine h I μ w I μ _ _ w.heap.size #[] 0 ⟨fun _ h=>h,by rw [hsz]; omega,fun b hb _=>hold b hb,fun b hb=>.inl hb,fun b hb=>.inl hb,rfl,rfl⟩ (Pre.refl _ _ hn') (Nat.le_refl _) (hd ▸ R1.put (.undef _ _) (some d)) (fun h=>by have:=R.heap.imm _ h; omega) (fun h=>by have:=R.heap.size_owned h; omega) (fun t ht=>?_) ?_ rfl Q hQ
 ·simp only [List.mem_singleton] at ht
  subst ht
  exact ⟨by rw [put_n]; exact hn,by rw [hd]; exact put_self (by rw [R.size]; exact hn)⟩
 ·show (w.heap.push _)[w.heap.size]? = _
  simp
theorem SRM.mv [KN:Know] {P:Program} {n:Nat} {ops:Array Oper} {o:Oper} {r:List Oper} {N:St → Prop} {st:St} {ms:List Nat} {es:List (Value × Value)} {m d:Nat} (ho:o.op = .move (.tmp m) ∨ o.op = .assign (.tmp m)) (hg:o.guard = none) (hd:o.dst = some d) (hdn:d < st.n)
  (hm:m ∈ ms) (h:SRM P n ops r (d :: ms) es N (st.put (some d) .undef)):SRM P n ops (o :: r) ms es N st:=by
 intro I0 μ0 w0 I μ a w b ents clock S0 p0 hb R hnI hno hms hheap hes Q hQ
 unfold wpList
 rw [if_pos (by simp [Region.wanted,hg])]
 refine .inl ?_
 have hmv:a.eval (.tmp m) = .map (some b):=(hms m hm).2
 have hr:(execOp a.eval o).run P w = .ok (.value (.map (some b))) w:=by
  rcases ho with ho | ho <;> simp only [execOp,ho,hmv] <;> rfl
 unfold Oper.wp
 rw [hr]
 have hsz:d < a.tmps.size:=by rw [R.size]; exact hdn
 refine h I0 μ0 w0 I μ _ w b ents clock S0 p0 hb (hd ▸ R.put (.undef _ _) (some d)) hnI hno (fun t ht=>?_) hheap hes Q hQ
 rw [hd,put_n]
 rcases List.mem_cons.1 ht with rfl | ht
 ·exact ⟨hdn,put_self hsz⟩
 ·refine ⟨(hms t ht).1,?_⟩
  by_cases he:d = t
  ·subst he; exact put_self hsz
  ·rw [put_other (by simpa using he)]; exact (hms t ht).2
theorem SRM.op [KN:Know] {P:Program} {n:Nat} {ops:Array Oper} {o:Oper} {r:List Oper} {N:St → Prop} {st:St} {ms:List Nat} {es:List (Value × Value)} (hg:o.guard = none) (hd:∀ t ∈ ms,o.dst ≠ some t)
  (h:cstep P n o (fun st'=>st'.n = st.n ∧ SRM P n ops r ms es N st') st):SRM P n ops (o :: r) ms es N st:=by
 intro I0 μ0 w0 I μ a w b ents clock S0 p0 hb R hnI hno hms hheap hes Q hQ
 unfold wpList
 rw [if_pos (by simp [Region.wanted,hg])]
 refine .inl ?_
 refine cstep_ok h I μ a w R p0.1 _ _ (fun I' μ' st' v w' ⟨hn',h'⟩ R' S' p'=>?_)
 have hlt:=lt_of_heap hheap
 refine h' I0 μ0 w0 I' μ' _ w' b ents clock (S0.trans S') (p0.trans p') hb R' (fun hI=>?_) (fun ho=>?_) (fun t ht=>?_) ?_ hes Q hQ
 ·rcases S'.imm b hI with h1 | h1 | h1
  ·exact hnI h1
  ·exact hno h1
  ·omega
 ·rcases S'.own b ho with h1 | h1
  ·exact hno h1
  ·omega
 ·exact ⟨by rw [hn']; exact (hms t ht).1,by rw [put_other (hd t ht)]; exact (hms t ht).2⟩
 ·rw [S'.same b hlt hno]; exact hheap
theorem SRM.look [KN:Know] {P:Program} {n:Nat} {ops:Array Oper} {o:Oper} {r:List Oper} {N:St → Prop} {st:St} {ms:List Nat} {es:List (Value × Value)} {t kt et:TypeId} {m i:Nat} {x:Operand} {k v:Value} {av:AV} {kind:TypeDesc} (ho:o.op = .lookup t (.tmp m) x false) (hg:o.guard = none)
  (hm:m ∈ ms) (ht:P.underlying t = some (.map kt et)) (hk:P.underlying kt = some kind) (hkind:kind = .string ∨ ∃ q,kind = .int q) (hx:aeval st x = .lit k) (hv:∀ I w μ,RelV I w μ av v) (hf:findE kind k es 0 = some (some (i,v)))
  (h:brwp P n ops r N (st.put o.dst av)):SRM P n ops (o :: r) ms es N st:=by
 intro I0 μ0 w0 I μ a w b ents clock S0 p0 hb R hnI hno hms hheap hes Q hQ
 unfold wpList
 rw [if_pos (by simp [Region.wanted,hg])]
 refine .inl ?_
 have hmv:a.eval (.tmp m) = .map (some b):=(hms m hm).2
 have hxv:a.eval x = k:=by
  have:=R.eval x
  rw [hx] at this
  exact this.lit_eq
 have hr:(execOp a.eval o).run P w = .ok (.value v) w:=by
  have hgo:(getObj b).run P w = .ok (.map ents clock) w:=by simp [getObj,Sem.run,hheap]
  have hck:∀ e,(Instr.checkKey e 10000 kt k).run P w = .ok () w:=fun e=>by
   have:∀ d:Nat,(Instr.checkKey e (d + 1) kt k).run P w = .ok () w:=fun d=>by
    rcases hkind with rfl | ⟨q,rfl⟩ <;> cases k <;> simp [Instr.checkKey,run_underlying hk]
   exact this 9999
  have hfk:(Instr.findKey kt k ents.toList).run P w = .ok (some (i,v)) w:=by
   simp only [Instr.findKey,Sem.run_bind,run_underlying hk,Result.andThen_ok]
   rw [findNow_eq,hes,hf]
   rfl
  simp only [execOp,ho,Instr.lookup,Sem.run_bind,hmv,hxv,run_underlying ht,Result.andThen_ok,hgo,hck,hfk,Sem.run_pure,Bool.false_eq_true,if_false]
 unfold Oper.wp
 rw [hr]
 have hRv:Rel I μ (st.put o.dst av) (a.put o.dst v) w:=R.put (hv I w μ) o.dst
 exact brwp_ok h I μ _ w hRv p0.1 Q (fun I' μ' st' a' w' h' R' S' p'=>hQ I' μ' st' a' w' h' R' (S0.trans S') (p0.trans p'))
structure MakeN [KN:Know] (P:Program) (n:Nat) (ops:Array Oper) (l:List Oper) (N:St → Prop) (st:St):Prop where
 ok:SR P n ops l N st
def aheadM [KN:Know] (P:Program) (n:Nat) (ops:Array Oper) (N:St → Prop):List Oper → St → Prop
 | [],st=>N st
 | o :: r,st=>match o.op with
  | .makeMap _ _=>MakeN P n ops (o :: r) N st
  | _=>match o.guard with
   | none=>cstep P n o (aheadM P n ops N r) st
   | some _=>False
theorem aheadM_ok [KN:Know] {P:Program} {n:Nat} {ops:Array Oper} {N:St → Prop}:∀ {l:List Oper} {st:St},aheadM P n ops N l st → SR P n ops l N st:=by
 intro l
 induction l with
 | nil=>intro st h I μ a w R hn Q hQ; exact hQ _ _ _ _ _ h R (Step.refl _ _ _) (Pre.refl _ _ hn)
 | cons o r ih =>
  intro st h
  unfold aheadM at h
  split at h
  ·exact h.ok
  ·split at h
   ·rename_i hg
    intro I μ a w R hn Q hQ
    unfold wpList
    rw [if_pos (by simp [Region.wanted,hg])]
    exact .inl (cstep_ok h I μ a w R hn _ _ (fun I' μ' st' v' w' h' R' S' p'=>ih h' I' μ' _ w' R' p'.1 Q (fun I2 μ2 st2 a2 w2 h2 R2 S2 p2=>hQ _ _ _ _ _ h2 R2 (S'.trans S2) (p'.trans p2))))
   ·exact h.elim
theorem MapB.of [KN:Know] {P:Program} {n id:Nat} {ops:Array Oper} {Q:Exit → St → Prop} {st:St} (h:aheadM P n ops (Q .normal) ops.toList st):MapB P n id ops Q st :=
 ⟨fun I μ a w R hn=>wp_region_list (aheadM_ok h I μ a w R hn _ fun I' μ' st' _a' _w' h' R' S p=>⟨I',μ',st',h',R',S,p⟩)⟩
end Go.Q
namespace Go.Q
open Go
def FrzT (k s:Nat) (es:List AV):List (Nat × AV) → List (Nat × AV) → Prop
 | [],[]=>True
 | (d,v) :: r,(d',v') :: r'=>d' = d ∧ (v' = v ∨ (v = .ref k 0 es.length ∧ v' = .vs s es)) ∧ FrzT k s es r r'
 | _,_=>False
theorem FrzT.look {k s:Nat} {es:List AV} {t:Nat}:∀ {T T':List (Nat × AV)},FrzT k s es T T' → look t T' = look t T ∨ (look t T = .ref k 0 es.length ∧ look t T' = .vs s es)
 | [],[],_=>.inl rfl
 | [],_ :: _,h=>h.elim
 | _ :: _,[],h=>h.elim
 | (d,v) :: r,(d',v') :: r',⟨h1,h2,h3⟩=>by
  subst h1
  simp only [Go.Q.look]
  by_cases hd:d' = t
  ·rw [if_pos hd,if_pos hd]; exact h2
  ·rw [if_neg hd,if_neg hd]; exact FrzT.look h3
theorem Rel.frz [KN:Know] {I:Nat → Prop} {μ:MM} {m:Nat} {T T':List (Nat × AV)} {h:List AObj} {a:Act} {w:World} {k s n:Nat} {es:List AV} (R:Rel I μ ⟨m,T,h⟩ a w) (hn:n ≤ μ.length) (hk:h[k]? = some (.arr s es)) (hT:FrzT k s es T T') :
  ∃ I' μ',Rel I' μ' ⟨m,T',h.set k .dead⟩ a w ∧ Step I μ w I' μ' w ∧ Pre n μ μ':=by
 have hslot:=Rel.slot R.heap hk
 have pre:Pre n μ (μ.set k .gone):=Pre.gone k hn
 have vs:∀ (v:Value) (I':Nat → Prop),(∀ b,I b → I' b) → (∀ l,μ.loc k = some l → I' l.block) → RelV I w μ (.ref k 0 es.length) v → RelV I' w (μ.set k .gone) (.vs s es) v:=by
  intro v I' hI hb hv
  rcases Rel.ref R.heap hk hv with ⟨rfl,_,_,rfl,_⟩ | ⟨ad,l,rfl,h0,_⟩ | ⟨l,cap,val,hl,rfl,hcap,hsz,hes,hbk,hsz',hnn,hc,hr⟩
  ·exact .vs _ s [] none 0 (fun _ _=>Go.undef) (by simp) (fun h=>by simp at h) (fun i hi=>by simp at hi) (fun i hi=>by simp at hi)
  ·obtain rfl:es = []:=List.eq_nil_of_length_eq_zero h0
   exact .vs _ s [] ad 0 (fun _ _=>Go.undef) (by simp) (fun h=>by simp at h) (fun i hi=>by simp at hi) (fun i hi=>by simp at hi)
  ·exact .vs _ s es _ cap val hcap (fun _=>⟨l.block,l.base + 0 * s,rfl,hb l hl,fun i j hi hj=>by rw [Nat.zero_mul,Nat.add_zero]; exact hc i j hi hj⟩) hnn (fun i hi j hj=>(hr i hi j hj).mono hI (fun _ _=>rfl))
 have tm:∀ (I':Nat → Prop) (t:Nat),(∀ b,I b → I' b) → (∀ l,μ.loc k = some l → I' l.block) → RelV I' w (μ.set k .gone) ((⟨m,T',h.set k .dead⟩:St).get t) (a.tmps.getD t Go.undef):=by
  intro I' t hI hb
  have ht:=R.tmps t
  unfold St.get at ht ⊢
  by_cases h0:t < m
  ·rw [if_pos h0] at ht ⊢
   rcases hT.look (t:=t) with e | ⟨e1,e2⟩
   ·have ht':RelV I w μ (look t T) _:=ht
    show RelV I' w _ (look t T') _
    rw [e]
    exact (ht'.sub (MM.sub_set _ _)).mono hI (fun _ _=>rfl)
   ·have ht':RelV I w μ (look t T) _:=ht
    show RelV I' w _ (look t T') _
    rw [e1] at ht'
    rw [e2]
    exact vs _ I' hI hb ht'
  ·rw [if_neg h0]; exact .undef _ _
 obtain ⟨x,hx,hO⟩:=hslot
 rcases hO.arr_inv with ⟨rfl,rfl⟩ | ⟨l,val,rfl,_⟩
 ·have hno:∀ l,μ.loc k = some l → False:=fun l hl=>by rw [MM.loc_some,hx] at hl; cases hl
  exact ⟨I,μ.set k .gone,⟨fun t=>tm I t (fun _ h=>h) (fun l hl=>(hno l hl).elim),R.size,R.defers,R.heap.kill k⟩,Step.kill k,pre⟩
 ·have hl:μ.loc k = some l:=MM.loc_some.2 hx
  obtain ⟨R',S'⟩:=R.freeze hl
  refine ⟨_,μ.set k .gone,⟨fun t=>tm _ t (fun _ h=>.inl h) (fun l' hl'=>.inr ?_),R.size,R.defers,R'.heap⟩,S',pre⟩
  rw [hl] at hl'; cases hl'; rfl
end Go.Q
namespace Go.Q
open Go
theorem DNodeB.mono [KN:Know] {P:Program} {o:Oper} {st:St} {K K':AV → Prop} (h:DNodeB P o st K) (f:∀ av,K av → K' av):DNodeB P o st K':=by
 obtain ⟨av,h1,h2⟩:=h
 exact ⟨av,h1,f av h2⟩
end Go.Q
namespace Go.Q
open Go
theorem BackS.by [KN:Know] {n:Nat} {s s':St} {T:St → Prop} (t:T s') (h:Sees n s s'):BackS n s T:=⟨s',h,t⟩
theorem WV.s {h:List AObj} {keep frz:List Nat} {m:Nat} {a:AV} (hp:pureQ a = true:=by rfl):WV h keep frz m a a:=.same a hp
theorem Sees.e [KN:Know] {st:St} {ts:List (Nat × AV)} (h:Seen st [] [] 0 ts):Sees 0 st ⟨st.n,ts,[]⟩:=Sees.of (Weak.objs (keep:=[]) (frz:=[]) (m:=0) rfl (by decide) rfl rfl ⟨rfl,fun _ h=>by cases h⟩ h)
end Go.Q
namespace Go.Q
open Go
theorem n' {α:Type} {x y:α} {K:α → Prop} (e:y = x) (k:K y):Nm x K:=Nm.mk ⟨y,e,k⟩
theorem S' {ρ:Type} {c:Prop} {X:Option ρ} {r:ρ} {K:Prop} (h:chk c X = some r) (k:X = some r → K):Side c K:=Side.mk (chk_elim h).1 (k (chk_elim h).2)
theorem R' [KN:Know] {α:Type} {P:Program} {fn:Func} {E:α → AV} {e:Exit} {st:St} {vs:List AV} {x r:α} (h:some x = some r) (he:isEnd e = true:=by rfl) (hv:aresults P st fn.results.toList = some vs:=by rfl) (hr:resultAV vs = E x:=by rfl) (hp:pureT (E x) = true:=by rfl):Returns P 0 fn (fun a h=>a = E r ∧ h = []) e st:=by
 cases h; exact Returns.pure he hv hr hp ⟨rfl,rfl⟩
theorem W' [KN : Know] {P : Program} {f : FuncId} {fn : Func} {c : Code} {args : List AV} {R : AV → List AObj → Prop} (C : List (Nat × Nat)) (hf : P.funcs[f]? = some fn) (h : bwp P 0 C c (Returns P 0 fn R) (argState fn args [])) (hb : fn.body = some c := by rfl) (hname : (fn.name == "runtime.NumGoroutine") = false := by decide) (hargs : Nat.ble args.length fn.ntmps = true := by rfl) : ACalls P f args [] R :=
 ACalls.of_swp hf hb hname hargs rfl (bwp_ok (C:=C) h)
end Go.Q
namespace Go.Q
open Go
theorem splice_elems {I:Nat → Prop} {w:World} {s off:Nat} {es xs:List AV} {v1 v2:Nat → Nat → Value} (hle:off + xs.length ≤ es.length) (h1:Elems I w s es v1) (h2:Elems I w s xs v2) :
  Elems I w s (splice es off xs) (fun i j=>if off ≤ i ∧ i < off + xs.length then v2 (i - off) j else v1 i j):=by
 refine ⟨fun i hi=>?_,fun i hi j hj=>?_⟩
 ·rcases @splice_get Know.none _ _ _ hle i hi with ⟨hk,h3,e⟩ | ⟨h3,hk,e⟩
  ·rw [e]; exact h2.1 _ _
  ·rw [e]; exact h1.1 _ _
 ·rcases @splice_get Know.none _ _ _ hle i hi with ⟨hk,h3,e⟩ | ⟨h3,hk,e⟩
  ·have hj':j < (xs[i - off]).cells.length:=by rw [← e]; exact hj
   have:=h2.2 (i - off) hk j hj'
   simp only [e,if_pos (show off ≤ i ∧ i < off + xs.length by omega)]
   exact this
  ·have hj':j < (es[i]).cells.length:=by rw [← e]; exact hj
   simp only [e,if_neg (show ¬ (off ≤ i ∧ i < off + xs.length) by omega)]
   exact h1.2 i hk j hj'
theorem Elems.take {I:Nat → Prop} {w:World} {s m:Nat} {xs:List AV} {v:Nat → Nat → Value} (h:Elems I w s xs v):Elems I w s (xs.take m) v:=by
 refine ⟨fun i hi=>?_,fun i hi j hj=>?_⟩
 ·rw [List.getElem_take]; exact h.1 _ _
 ·have hi':i < xs.length:=by rw [List.length_take] at hi; omega
  have e:(xs.take m)[i] = xs[i]:=List.getElem_take
  have hj':j < (xs[i]).cells.length:=by rw [← e]; exact hj
  simp only [e]; exact h.2 i hi' j hj'
theorem SOp.copy [KN:Know] {P:Program} {n:Nat} {o:Oper} {N:St → Prop} {st:St} {t u e s k off len m:Nat} {x y:Operand} (ho:o.op = .call { callee:=.builtin .copy,args:=#[x,y],argTypes:=#[t,u] })
  (ht:P.underlying t = some (.slice e)) {i:TypeInfo} (hi:P.info? e = some i) (his:i.size = s) (hs:0 < s)
  {es xs:List AV} (hx:aeval st x = .ref k off len) (hk:st.h[k]? = some (.arr s es)) (hle:off + len ≤ es.length) (hsrc:Src P st y s xs) (hm:m = min xs.length len)
  (hN:N (({ st with h:=st.h.set k (.arr s (splice es off (xs.take m))) }:St).put o.dst (.lit (.int .i64 m)))):SOp P n o N st:=by
 intro I μ a w R hn next Q hK
 obtain ⟨v2,hE2,hlen2,hfc2,hone2⟩:=hsrc I μ a w R
 subst his
 have hm1:m ≤ xs.length:=by omega
 have hm2:m ≤ len:=by omega
 have htk:(xs.take m).length = m:=by rw [List.length_take]; omega
 have hexec:execOp a.eval o = (do let r ← Builtin.copy_ #[t,u] o.type #[a.eval x,a.eval y]; Pure.pure (.value r):Sem Next):=by
  simp only [execOp,ho,resolve,List.map_toArray,List.map_cons,List.map_nil]
  rfl
 have hv:=R.eval x
 rw [hx] at hv
 have hfc:=hfc2 m hm1 w rfl
 have hcopy:∀ (base:Option Addr) (cap:Nat),a.eval x = .slice base len cap → ∀ w',(match base with | some p=>(storeCells p (rowVals m i.size v2)).run P w = .ok () w' | none=>w' = w) →
   (Builtin.copy_ #[t,u] o.type #[a.eval x,a.eval y]).run P w = .ok (.int .i64 m) w':=by
  intro base cap e1 w' h1
  unfold Builtin.copy_
  have hmin:Nat.min xs.length len = m:=hm.symm
  simp only [List.getElem?_toArray,List.getElem?_cons_zero,List.getElem?_cons_succ,Sem.run_bind,run_underQ ht,Result.andThen_ok,e1,hlen2,hmin,sizeOf,typeInfo,run_program,hi,hfc,Sem.run_pure]
  cases base with
  | none=>subst h1; rfl
  | some p =>
   simp only at h1
   simp only [Sem.run_bind,h1,Result.andThen_ok,Sem.run_pure]
   rfl
 have fin:∀ (w':World) (_:(Builtin.copy_ #[t,u] o.type #[a.eval x,a.eval y]).run P w = .ok (.int .i64 m) w') (_:Rel I μ { st with h:=st.h.set k (.arr i.size (splice es off (xs.take m))) } a w') (_:Step I μ w I μ w'),o.wp P a w next Q:=by
  intro w' hr R1 S1
  unfold Oper.wp
  rw [hexec,Sem.run_bind,hr]
  exact hK _ _ _ _ _ hN (R1.put (.lit _ _) o.dst) S1 (Pre.refl _ _ hn)
 have same:m = 0 → ({ st with h:=st.h.set k (.arr i.size (splice es off (xs.take m))) }:St) = st:=by
  intro h0
  have:splice es off (xs.take m) = es:=by
   rw [h0,List.take_zero]; unfold splice; simp
  rw [this]
  cases st with
  | mk a b c =>
   congr 1
   apply List.ext_getElem?
   intro j
   by_cases e:k = j
   ·subst e
    have hlt:k < c.length:=by
     rcases Nat.lt_or_ge k c.length with h1 | h1
     ·exact h1
     ·rw [List.getElem?_eq_none (by simpa using h1)] at hk; cases hk
    rw [List.getElem?_set_self hlt]; exact hk.symm
   ·rw [List.getElem?_set_ne e]
 rcases Rel.ref R.heap hk hv with ⟨e1,rfl,rfl,rfl,_⟩ | ⟨ad,l,e1,rfl,hl⟩ | ⟨l,cap,val,hl,e1,hcap,hsz,hes,hb,hsz',hnn,hc,hr⟩
 ·have h0:m = 0:=by omega
  exact fin w (hcopy none 0 e1 w rfl) (by rw [same h0]; exact R) (Step.refl _ _ _)
 ·have h0:m = 0:=by omega
  refine fin w (hcopy ad 0 e1 w ?_) (by rw [same h0]; exact R) (Step.refl _ _ _)
  cases ad with
  | none=>rfl
  | some p=>subst h0; simp [rowVals,storeCells]
 ·have hbd:l.base + off * i.size + m * i.size ≤ l.size:=by
   have:(off + m) * i.size ≤ (off + cap) * i.size:=Nat.mul_le_mul_right _ (by omega)
   rw [Nat.add_mul] at this; omega
  have hone:∀ v ∈ rowVals m i.size v2,v.oneCell' = true:=rowVals_one hs (fun p q hp hq=>hone2 p q (by omega) hq)
  obtain ⟨w',hrn,⟨hs1,hx1⟩,ho1,hb1,hc'⟩:=storeCells_ok (P:=P) (l:=l) (rowVals m i.size v2) (l.base + off * i.size) 0 w hb (by rw [rowVals_length]; omega) hone
  have hI:∀ b,I b → w'.heap[b]? = w.heap[b]?:=fun b hb=>ho1 b (fun e=>R.heap.notI _ ⟨k,l,hl,rfl⟩ (e ▸ hb))
  have hE:=splice_elems (off:=off) (es:=es) (xs:=xs.take m) (by rw [htk]; omega) ⟨hnn,hr⟩ (hE2.take (m:=m))
  have hE':Elems I w' i.size (splice es off (xs.take m)) _:=hE.mono hI
  refine fin w' (hcopy _ cap e1 w' hrn) (R.update hl hs1 ho1 ?_) (Step.update hl hs1 ho1 hx1)
  refine .arr _ _ l _ hes hb1 (by rw [splice_length (by rw [htk]; omega)]; exact hsz') hE'.1 (fun p q hp hq=>?_) hE'.2
  rw [splice_length (by rw [htk]; omega)] at hp
  rw [hc',rowVals_length,htk]
  simp only [Nat.add_zero]
  by_cases h1:off ≤ p ∧ p < off + m
  ·have hlt:off * i.size ≤ p * i.size:=Nat.mul_le_mul_right _ h1.1
   have hlt2:(p + 1) * i.size ≤ (off + m) * i.size:=Nat.mul_le_mul_right _ h1.2
   rw [Nat.add_mul,Nat.add_mul,Nat.one_mul] at hlt2
   rw [if_pos (by omega),if_pos h1,← rowVals_get (show p - off < m by omega) hq]
   congr 1
   rw [Nat.sub_mul]; omega
  ·rw [if_neg h1,if_neg,← hc p q hp hq]
   intro ⟨h2,h3⟩
   rcases Nat.lt_or_ge p off with h4 | h4
   ·have hlt:(p + 1) * i.size ≤ off * i.size:=Nat.mul_le_mul_right _ h4
    rw [Nat.add_mul,Nat.one_mul] at hlt; omega
   ·have hlt:(off + m) * i.size ≤ p * i.size:=Nat.mul_le_mul_right _ (by omega)
    rw [Nat.add_mul] at hlt; omega
end Go.Q
