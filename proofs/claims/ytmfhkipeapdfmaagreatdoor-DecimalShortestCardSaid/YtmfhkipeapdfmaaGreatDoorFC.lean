import Derived.Test.YtmfhkipeapdfmaaGreatDoorFB
namespace Go.Q
open Go
inductive WV (h:List AObj) (keep frz:List Nat) (m:Nat):AV → AV → Prop
 | undef (a:AV):WV h keep frz m a .undef
 | same (a:AV) (hp:pureQ a = true):WV h keep frz m a a
 | nilsVs (s:Nat):WV h keep frz m .nils (.vs s [])
 | nilsRef (i:Nat) (h1:keep.length ≤ i) (h2:i < keep.length + m):WV h keep frz m .nils (.ref i 0 0)
 | vsNil (s s':Nat):WV h keep frz m (.vs s []) (.vs s' [])
 | ref (o off len i:Nat) (hk:keep[i]? = some o):WV h keep frz m (.ref o off len) (.ref i off len)
 | refFrz (o off len s:Nat) (es:List AV) (hf:o ∈ frz) (ho:h[o]? = some (.arr s es)) (hle:off + len ≤ es.length):WV h keep frz m (.ref o off len) (.vs s ((es.drop off).take len))
 | ptr (o j i:Nat) (hk:keep[i]? = some o):WV h keep frz m (.ptr o j) (.ptr i j)
 | ptrFrz (o:Nat) (c:AV) (hf:o ∈ frz) (ho:h[o]? = some (.box c.cells)) (hp:c.cells.all pureQ.pureQ1 = true):WV h keep frz m (.ptr o 0) (.iptr c)
 | eptr (o p j i:Nat) (hk:keep[i]? = some o):WV h keep frz m (.eptr o p j) (.eptr i p j)
 | agg (cs cs':List AV) (hl:cs'.length = cs.length) (hc:∀ i (h1:i < cs.length) (h2:i < cs'.length),WV h keep frz m cs[i] cs'[i]):WV h keep frz m (.agg cs) (.agg cs')
 | tup (cs cs':List AV) (hl:cs'.length = cs.length) (hc:∀ i (h1:i < cs.length) (h2:i < cs'.length),WV h keep frz m cs[i] cs'[i]):WV h keep frz m (.tup cs) (.tup cs')
 | fn (f:Fn) (a b b':List AV) (ha:a = []) (hl:b'.length = b.length) (hc:∀ i (h1:i < b.length) (h2:i < b'.length),WV h keep frz m b[i] b'[i]):WV h keep frz m (.fn f a b) (.fn f a b')
inductive WO (h:List AObj) (keep frz:List Nat) (m:Nat):AObj → AObj → Prop
 | dead:WO h keep frz m .dead .dead
 | arr (s:Nat) (es:List AV):WO h keep frz m (.arr s es) (.arr s es)
 | box (cs cs':List AV) (hl:cs'.length = cs.length) (hc:∀ i (h1:i < cs.length) (h2:i < cs'.length),WV h keep frz m cs[i] cs'[i]):WO h keep frz m (.box cs) (.box cs')
 | arrP (s k:Nat) (es:List AV):WO h keep frz m (.arr s es) (.arr s (es.take k))
structure WH (n:Nat) (h:List AObj) (keep frz:List Nat) (m:Nat) (h':List AObj):Prop where
 nodup:keep.Nodup
 pre:∀ o,o < n → keep[o]? = some o
 apart:∀ o ∈ frz,o ∉ keep
 len:h'.length = keep.length + m
 objs:∀ i (hi:i < keep.length),∃ ob ob',h[keep[i]]? = some ob ∧ h'[i]? = some ob' ∧ WO h keep frz m ob ob'
 more:∀ i,keep.length ≤ i → i < keep.length + m → ∃ s,h'[i]? = some (.arr s [])
def newMM (μ:MM) (keep:List Nat) (m:Nat):MM:=keep.map (fun o=>(μ[o]?).getD .gone) ++ List.replicate m .nil
theorem newMM_get {μ:MM} {keep:List Nat} {m i o:Nat} (h:keep[i]? = some o) {x:Slot} (hx:μ[o]? = some x):(newMM μ keep m)[i]? = some x:=by
 have hi:i < keep.length:=by
  rcases Nat.lt_or_ge i keep.length with h1 | h1
  ·exact h1
  ·rw [List.getElem?_eq_none h1] at h; cases h
 unfold newMM
 rw [List.getElem?_append_left (by simpa using hi),List.getElem?_map,h]
 simp [hx]
theorem newMM_more {μ:MM} {keep:List Nat} {m i:Nat} (h1:keep.length ≤ i) (h2:i < keep.length + m):(newMM μ keep m)[i]? = some .nil:=by
 unfold newMM
 rw [List.getElem?_append_right (by simpa using h1)]
 have h3:i - (keep.map (fun o=>(μ[o]?).getD Slot.gone)).length < (List.replicate m Slot.nil).length:=by simp; omega
 rw [List.getElem?_eq_getElem h3]
 simp
theorem newMM_loc {μ:MM} {keep:List Nat} {m i:Nat} {l:Loc} (h:(newMM μ keep m).loc i = some l):∃ o,keep[i]? = some o ∧ μ.loc o = some l:=by
 rw [MM.loc_some] at h
 unfold newMM at h
 rcases Nat.lt_or_ge i keep.length with h1 | h1
 ·rw [List.getElem?_append_left (by simpa using h1),List.getElem?_map,List.getElem?_eq_getElem h1] at h
  refine ⟨keep[i],List.getElem?_eq_getElem h1,?_⟩
  simp only [Option.map_some,Option.some.injEq] at h
  rw [MM.loc_some]
  cases hx:μ[keep[i]]? with
  | none=>rw [hx] at h; cases h
  | some x=>rw [hx] at h; simp at h; rw [h]
 ·rw [List.getElem?_append_right (by simpa using h1)] at h
  rcases Nat.lt_or_ge (i - keep.length) m with h2 | h2
  ·simp [h2] at h
  ·rw [List.getElem?_eq_none (by simpa using h2)] at h; cases h
def frzI (I:Nat → Prop) (μ:MM) (frz:List Nat):Nat → Prop:=fun b=>I b ∨ ∃ o l,o ∈ frz ∧ μ.loc o = some l ∧ l.block = b
theorem WV.rel [KN:Know] {h:List AObj} {keep frz:List Nat} {m:Nat} {a b:AV} (hw:WV h keep frz m a b) {I:Nat → Prop} {μ:MM} {w:World} (H:RelH I μ h w) :
  ∀ {v:Value},RelV I w μ a v → RelV (frzI I μ frz) w (newMM μ keep m) b v:=by
 have mono:∀ {ν:MM} {a:AV} {v:Value},RelV I w ν a v → RelV (frzI I μ frz) w ν a v:=fun r=>r.mono (fun _ h=>.inl h) (fun _ _=>rfl)
 induction hw with
 | undef a=>intro v _; exact .undef _ _
 | same a hp=>intro v r; exact mono (pureQ_ok hp r _)
 | nilsVs s =>
  intro v r
  cases r
  simpa using RelV.vs (I:=frzI I μ frz) (w:=w) (newMM μ keep m) s [] none 0 (fun _ _=>Go.undef) (by simp) (fun h=>by simp at h) (fun i hi=>by simp at hi) (fun i hi=>by simp at hi)
 | nilsRef i h1 h2=>intro v r; cases r; exact .ref0 _ _ (newMM_more h1 h2)
 | vsNil s s' =>
  intro v r
  obtain ⟨ad,cap,val,rfl,hcap,_⟩:=r.vs_inv
  simpa using RelV.vs (I:=frzI I μ frz) (w:=w) (newMM μ keep m) s' [] ad cap (fun _ _=>Go.undef) (by simp) (fun h=>by simp at h) (fun i hi=>by simp at hi) (fun i hi=>by simp at hi)
 | ref o off len i hk =>
  intro v r
  cases r with
  | ref _ _ _ _ cap l hl hlen hcap=>exact .ref _ _ off len cap l (MM.loc_some.2 (newMM_get hk (MM.loc_some.1 hl))) hlen hcap
  | ref0 _ _ hl=>exact .ref0 _ _ (newMM_get hk hl)
  | refE _ _ off l ad hl=>exact .refE _ _ off l ad (MM.loc_some.2 (newMM_get hk (MM.loc_some.1 hl)))
  | refX _ _ _ _ v hl=>exact .refX _ _ off len v (newMM_get hk hl)
 | refFrz o off len s es hf ho hle =>
  intro v r
  have hlen:((es.drop off).take len).length = len:=by simp; omega
  rcases Rel.ref H ho r with ⟨e,rfl,rfl,rfl,_⟩ | ⟨ad,l,e,rfl,_⟩ | ⟨l,cap,val,hl,e,hcap,hsz,hes,hb,hsz',hn,hc,hr⟩
  ·rw [e]; simpa using RelV.vs (I:=frzI I μ frz) (w:=w) (newMM μ keep m) s [] none 0 (fun _ _=>Go.undef) (by simp) (fun h=>by simp at h) (fun i hi=>by simp at hi) (fun i hi=>by simp at hi)
  ·rw [e]; simpa using RelV.vs (I:=frzI I μ frz) (w:=w) (newMM μ keep m) s [] ad 0 (fun _ _=>Go.undef) (by simp) (fun h=>by simp at h) (fun i hi=>by simp at hi) (fun i hi=>by simp at hi)
  ·rw [e]
   have:=RelV.vs (I:=frzI I μ frz) (w:=w) (newMM μ keep m) s ((es.drop off).take len) (some ⟨l.block,l.base + off * s,none⟩) cap (fun i j=>val (off + i) j) (by rw [hlen]; exact hcap)
    (fun _=>⟨l.block,l.base + off * s,rfl,.inr ⟨o,l,hf,hl,rfl⟩,fun p q hp hq=>by
     rw [hlen] at hp
     rw [← hc (off + p) q (by omega) hq,Nat.add_mul,← Nat.add_assoc]⟩)
    (fun p hp=>by rw [hlen] at hp; simpa using hn (off + p) (by omega))
    (fun p hp q hq=>by
     rw [hlen] at hp
     have e1:((es.drop off).take len)[p]'(by rw [hlen]; exact hp) = es[off + p]:=by simp
     have hq':q < (es[off + p]).cells.length:=by rw [← e1]; exact hq
     have:=mono (hr (off + p) (by omega) q hq')
     simpa [e1] using this)
   rwa [hlen] at this
 | ptr o j i hk =>
  intro v r
  cases r with
  | ptr _ _ _ l hl=>exact .ptr _ _ j l (MM.loc_some.2 (newMM_get hk (MM.loc_some.1 hl)))
  | ptrX _ _ _ v hl=>exact .ptrX _ _ j v (newMM_get hk hl)
 | ptrFrz o c hf ho hp =>
  intro v r
  obtain ⟨l,val,hl,rfl,hb,hsz,hc,hr⟩:=Rel.ptr H ho r
  simp only [List.all_eq_true] at hp
  exact .iptr _ c l.block (l.base + 0) val (.inr ⟨o,l,hf,hl,rfl⟩) (fun j hj=>by rw [Nat.add_zero]; exact hc j hj) (fun j hj=>mono (pureQ1_ok (hp _ (List.getElem_mem hj)) (hr j hj) []))
 | eptr o p j i hk =>
  intro v r
  cases r with
  | eptr _ _ _ _ l hl=>exact .eptr _ _ p j l (MM.loc_some.2 (newMM_get hk (MM.loc_some.1 hl)))
  | eptrX _ _ _ _ v hl=>exact .eptrX _ _ p j v (newMM_get hk hl)
 | agg cs cs' hl hc ih =>
  intro v r
  obtain ⟨xs,rfl,hn,hx⟩:=r.agg_inv
  exact .agg _ _ xs (by omega) (fun i hi=>ih i (by omega) hi (hx i (by omega)))
 | tup cs cs' hl hc ih =>
  intro v r
  obtain ⟨xs,rfl,hn,hx⟩:=r.tup_inv
  exact .tup _ _ xs (by omega) (fun i hi=>ih i (by omega) hi (hx i (by omega)))
 | fn f a b b' ha hl hc ih =>
  intro v r
  subst ha
  cases r with
  | fn _ _ _ _ fs cs hf hcs h1 h2=>exact .fn _ f [] b' fs cs hf (by omega) (fun i hi=>by simp at hi) (fun i hi=>ih i (by omega) hi (h2 i (by omega)))
theorem WH.rel [KN:Know] {n:Nat} {h h':List AObj} {keep frz:List Nat} {m:Nat} (W:WH n h keep frz m h') {I:Nat → Prop} {μ:MM} {w:World} (H:RelH I μ h w) (hn:n ≤ μ.length) :
  RelH (frzI I μ frz) (newMM μ keep m) h' w ∧ Step I μ w (frzI I μ frz) (newMM μ keep m) w ∧ Pre n μ (newMM μ keep m):=by
 have hlen:(newMM μ keep m).length = h'.length:=by rw [W.len]; simp [newMM]
 refine ⟨⟨hlen,fun i ob x hi hx=>?_,fun b hb=>?_,fun i j l l' e1 e2 e=>?_,fun b hb=>?_,H.know.step (fun _ h=>.inl h) (fun _ _=>rfl)⟩,⟨fun _ h=>.inl h,Nat.le_refl _,fun _ _ _=>rfl,fun b hb=>?_,fun b hb=>?_,rfl,rfl⟩,⟨?_,fun o ho=>?_⟩⟩
 ·have hlt:i < h'.length:=by
   rcases Nat.lt_or_ge i h'.length with h1 | h1
   ·exact h1
   ·rw [List.getElem?_eq_none h1] at hi; cases hi
  rw [W.len] at hlt
  rcases Nat.lt_or_ge i keep.length with h1 | h1
  ·obtain ⟨ob1,ob2,g1,g2,g3⟩:=W.objs i h1
   rw [g2] at hi; cases hi
   obtain ⟨y,hy,hO⟩:=Rel.slot H g1
   rw [newMM_get (List.getElem?_eq_getElem h1) hy] at hx
   cases hx
   cases g3 with
   | dead=>cases hO; exact .dead
   | arr s es =>
    cases hO with
    | arr0=>exact .arr0 s
    | arr _ _ l val hs hb hsz hnn hc hv=>exact .arr s es l val hs hb hsz hnn hc (fun i hi j hj=>(hv i hi j hj).mono (fun _ h=>.inl h) (fun _ _=>rfl))
   | arrP s k es =>
    cases hO with
    | arr0=>rw [List.take_nil]; exact .arr0 s
    | arr _ _ l val hs hb hsz hnn hc hv =>
     have hle:(es.take k).length ≤ es.length:=by rw [List.length_take]; omega
     have hlt:∀ {i},i < (es.take k).length → i < es.length:=fun h=>Nat.lt_of_lt_of_le h hle
     refine .arr s _ l val hs hb (Nat.le_trans (Nat.add_le_add_left (Nat.mul_le_mul_right _ hle) _) hsz) (fun i hi=>?_) (fun i j hi hj=>hc i j (hlt hi) hj) (fun i hi j hj=>?_)
     ·have:=hnn i (hlt hi); rw [List.getElem_take]; exact this
     ·have e1:(es.take k)[i] = es[i]'(hlt hi):=List.getElem_take
      have hj':j < (es[i]'(hlt hi)).cells.length:=by rw [← e1]; exact hj
      have:=(hv i (hlt hi) j hj').mono (I':=frzI I μ frz) (w':=w) (fun _ h=>.inl h) (fun _ _=>rfl)
      simpa only [e1] using this
   | box cs cs' hl hc =>
    cases hO with
    | box _ l val hb hsz hcell hv=>exact .box cs' l val hb (by omega) (fun j hj=>hcell j (by omega)) (fun j hj=>(hc j (by omega) hj).rel H (hv j (by omega)))
  ·obtain ⟨s,hs⟩:=W.more i h1 hlt
   rw [hs] at hi; cases hi
   rw [newMM_more h1 hlt] at hx; cases hx
   exact .arr0 s
 ·obtain ⟨i,l,e,rfl⟩:=hb
  obtain ⟨o,hk,hl⟩:=newMM_loc e
  rintro (h1 | ⟨o',l',hf,hl',e'⟩)
  ·exact H.notI _ ⟨o,l,hl,rfl⟩ h1
  ·have:=H.apart _ _ _ _ hl' hl e'
   subst this
   exact W.apart _ hf (List.mem_of_getElem? hk)
 ·obtain ⟨o,hk,hl⟩:=newMM_loc e1
  obtain ⟨o',hk',hl'⟩:=newMM_loc e2
  have:=H.apart _ _ _ _ hl hl' e
  subst this
  have hi:i < keep.length:=by
   rcases Nat.lt_or_ge i keep.length with h1 | h1
   ·exact h1
   ·rw [List.getElem?_eq_none h1] at hk; cases hk
  exact (List.getElem?_inj hi W.nodup).1 (hk.trans hk'.symm)
 ·rcases hb with h1 | ⟨o,l,_,hl,rfl⟩
  ·exact H.imm b h1
  ·exact H.size_owned ⟨o,l,hl,rfl⟩
 ·obtain ⟨i,l,e,rfl⟩:=hb
  obtain ⟨o,_,hl⟩:=newMM_loc e
  exact .inl ⟨o,l,hl,rfl⟩
 ·rcases hb with h1 | ⟨o,l,_,hl,rfl⟩
  ·exact .inl h1
  ·exact .inr (.inl ⟨o,l,hl,rfl⟩)
 ·rcases Nat.eq_zero_or_pos n with h0 | h0
  ·omega
  ·have:=W.pre (n - 1) (by omega)
   have hi:n - 1 < keep.length:=by
    rcases Nat.lt_or_ge (n - 1) keep.length with h1 | h1
    ·exact h1
    ·rw [List.getElem?_eq_none h1] at this; cases this
   simp [newMM]; omega
 ·have hm:o < μ.length:=by omega
  have hx:=List.getElem?_eq_getElem hm
  left
  rw [newMM_get (W.pre o ho) hx,hx]
structure Weak (n:Nat) (st st':St) (keep frz:List Nat) (m:Nat):Prop where
 size:st'.n = st.n
 heap:WH n st.h keep frz m st'.h
 tmps:∀ p ∈ st'.ts,WV st.h keep frz m (st.get p.1) p.2
theorem look_mem {d:Nat}:∀ {ts:List (Nat × AV)},look d ts = .undef ∨ (d,look d ts) ∈ ts
 | []=>.inl rfl
 | (k,v) :: r=>by
  unfold look
  split
  ·rename_i e; subst e; exact .inr (by simp)
  ·rcases look_mem (d:=d) (ts:=r) with h | h
   ·exact .inl h
   ·exact .inr (by simp [h])
theorem Weak.rel [KN:Know] {n:Nat} {st st':St} {keep frz:List Nat} {m:Nat} (W:Weak n st st' keep frz m) {I:Nat → Prop} {μ:MM} {a:Act} {w:World} (R:Rel I μ st a w) (hn:n ≤ μ.length) :
  Rel (frzI I μ frz) (newMM μ keep m) st' a w ∧ Step I μ w (frzI I μ frz) (newMM μ keep m) w ∧ Pre n μ (newMM μ keep m):=by
 obtain ⟨h1,h2,h3⟩:=W.heap.rel R.heap hn
 refine ⟨⟨fun d=>?_,by rw [W.size]; exact R.size,R.defers,h1⟩,h2,h3⟩
 unfold St.get
 split
 ·rcases look_mem (d:=d) (ts:=st'.ts) with h | h
  ·rw [h]; exact .undef _ _
  ·exact (W.tmps _ h).rel R.heap (R.tmps d)
 ·exact .undef _ _
end Go.Q
namespace Go.Q
open Go
def rwp [KN:Know] (P:Program) (n:Nat) (ops:Array Oper):List Oper → (St → Prop) → St → Prop
 | [],N,st=>N st
 | o :: r,N,st=>match o.guard with
  | none=>astep P n o (rwp P n ops r N) st
  | some (j,want)=>match (ops[j]?).bind (·.dst) with
   | some d=>match st.get d with
    | .lit (.bool b)=>ifB b
      (st.putK (some d) (.lit (.bool true)) fun st=>match want with | true=>astep P n o (rwp P n ops r N) st | false=>st.putK o.dst (.tup []) (rwp P n ops r N))
      (st.putK (some d) (.lit (.bool false)) fun st=>match want with | false=>astep P n o (rwp P n ops r N) st | true=>st.putK o.dst (.tup []) (rwp P n ops r N))
    | .tup []=>st.putK o.dst (.tup []) (rwp P n ops r N)
    | _=>False
   | none=>False
theorem rel_tup0 {I:Nat → Prop} {w:World} {μ:MM}:RelV I w μ (.tup []) Go.undef:=.tup _ [] #[] rfl (fun i hi=>by simp at hi)
theorem tup0_inv [_KN:Know] {I:Nat → Prop} {w:World} {μ:MM} {v:Value} (h:RelV I w μ (.tup []) v):v = .tuple #[]:=by
 obtain ⟨xs,rfl,hn,_⟩:=h.tup_inv
 have:xs = #[]:=by simpa using hn
 rw [this]
def SR [KN:Know] (P:Program) (n:Nat) (ops:Array Oper) (l:List Oper) (N:St → Prop) (st:St):Prop :=
 ∀ I μ a w,Rel I μ st a w → n ≤ μ.length → ∀ Q:Exit → Act → World → Prop,(∀ I' μ' st' a' w',N st' → Rel I' μ' st' a' w' → Step I μ w I' μ' w' → Pre n μ μ' → Q .normal a' w') → wpList P ops Q l a w
theorem get_lt {st:St} {d:Nat} {v:AV} (h:st.get d = v) (hv:v ≠ .undef):d < st.n:=by
 unfold St.get at h
 split at h
 ·assumption
 ·exact absurd h.symm hv
def Post [KN:Know] (n:Nat) (I:Nat → Prop) (μ:MM) (w:World) (Q:Exit → St → Prop) (e:Exit) (a':Act) (w':World):Prop :=
 ∃ I' μ' st',Q e st' ∧ Rel I' μ' st' a' w' ∧ Step I μ w I' μ' w' ∧ Pre n μ μ'
def SWP [KN:Know] (P:Program) (n:Nat) (c:Code) (Q:Exit → St → Prop) (st:St):Prop :=
 ∀ I μ a w,Rel I μ st a w → n ≤ μ.length → c.wp P (Post n I μ w Q) a w
theorem Post.trans [KN:Know] {n:Nat} {I I':Nat → Prop} {μ μ':MM} {w w':World} {Q:Exit → St → Prop} (S:Step I μ w I' μ' w') (p:Pre n μ μ') {e:Exit} {a2:Act} {w2:World} (h:Post n I' μ' w' Q e a2 w2):Post n I μ w Q e a2 w2:=by
 obtain ⟨I2,μ2,st2,hQ,R2,S2,p2⟩:=h
 exact ⟨I2,μ2,st2,hQ,R2,S.trans S2,p.trans p2⟩
theorem SWP.mono [KN:Know] {P:Program} {n:Nat} {c:Code} {Q Q':Exit → St → Prop} {st:St} (h:SWP P n c Q st) (hq:∀ e s,Q e s → Q' e s):SWP P n c Q' st :=
 fun I μ a w R hn=>wp_mono (h I μ a w R hn) fun _ _ _ ⟨I',μ',st',hQ,rest⟩=>⟨I',μ',st',hq _ _ hQ,rest⟩
def thenQ (next:St → Prop) (Q:Exit → St → Prop):Exit → St → Prop
 | .normal,s=>next s
 | e,s=>Q e s
theorem SWP.seq [KN:Know] {P:Program} {n:Nat} {x y:Code} {Q:Exit → St → Prop} {st:St} (h:SWP P n x (thenQ (SWP P n y Q) Q) st):SWP P n (.seq x y) Q st:=by
 intro I μ a w R hn
 refine wp_seq (wp_mono (h I μ a w R hn) fun e a' w' hp=>?_)
 obtain ⟨I',μ',st',hQ,R',S,p⟩:=hp
 cases e with
 | normal=>exact wp_mono (hQ I' μ' a' w' R' p.1) fun _ _ _ hp=>hp.trans S p
 | _=>exact ⟨I',μ',st',hQ,R',S,p⟩
theorem SWP.cond [KN:Know] {P:Program} {n:Nat} {c:Operand} {x y:Code} {Q:Exit → St → Prop} {st:St} {b:Bool} (hc:aeval st c = .lit (.bool b)) (h1:b = true → SWP P n x Q st) (h2:b = false → SWP P n y Q st):SWP P n (.cond c x y) Q st:=by
 intro I μ a w R hn
 have e1:=R.eval c
 rw [hc] at e1
 exact wp_cond_split e1.lit_eq (fun h=>h1 h I μ a w R hn) (fun h=>h2 h I μ a w R hn)
def blockQ (id:Nat) (Q:Exit → St → Prop):Exit → St → Prop
 | .exit id',s=>if id' = id then Q .normal s else Q (.exit id') s
 | e,s=>Q e s
theorem SWP.block [KN:Know] {P:Program} {n:Nat} {id:Nat} {c:Code} {Q:Exit → St → Prop} {st:St} (h:SWP P n c (blockQ id Q) st):SWP P n (.block id c) Q st:=by
 intro I μ a w R hn
 refine wp_block (wp_mono (h I μ a w R hn) fun e a' w' hp=>?_)
 obtain ⟨I',μ',st',hQ,rest⟩:=hp
 cases e with
 | exit id' =>
  simp only [blockQ] at hQ
  simp only [Exit.inBlock]
  split
  ·rename_i h1; rw [if_pos h1] at hQ; exact ⟨I',μ',st',hQ,rest⟩
  ·rename_i h1; rw [if_neg h1] at hQ; exact ⟨I',μ',st',hQ,rest⟩
 | _=>exact ⟨I',μ',st',hQ,rest⟩
theorem SWP.loop [KN:Know] {P:Program} {n:Nat} {c:Code} {Q:Exit → St → Prop} {st:St} (Inv:Nat → St → Prop) {k:Nat} (h0:Inv k st)
  (round:∀ k s,Inv k s → SWP P n c (thenQ (fun s'=>∃ k',k' < k ∧ Inv k' s') Q) s):SWP P n (.loop c) Q st:=by
 intro I μ a w R hn
 classical
 let J:Act → World → Prop:=fun a' w'=>∃ k' I' μ' s',Inv k' s' ∧ Rel I' μ' s' a' w' ∧ Step I μ w I' μ' w' ∧ Pre n μ μ'
 let good:Act → World → Nat → Prop:=fun a' w' k'=>∃ I' μ' s',Inv k' s' ∧ Rel I' μ' s' a' w' ∧ Step I μ w I' μ' w' ∧ Pre n μ μ'
 have hmin:∀ a' w',J a' w' → ∃ k',good a' w' k' ∧ ∀ j,good a' w' j → k' ≤ j:=by
  intro a' w' ⟨k',hk'⟩
  have hk':good a' w' k':=hk'
  have key:∀ m,∀ k',k' ≤ m → good a' w' k' → ∃ k',good a' w' k' ∧ ∀ j,good a' w' j → k' ≤ j:=by
   intro m
   induction m with
   | zero=>intro k' h1 h2; exact ⟨k',h2,fun j _=>by omega⟩
   | succ m ih =>
    intro k' h1 h2
    by_cases h3:∃ j,good a' w' j ∧ j < k'
    ·obtain ⟨j,h4,h5⟩:=h3; exact ih j (by omega) h4
    ·exact ⟨k',h2,fun j hj=>by
      rcases Nat.lt_or_ge j k' with h4 | h4
      ·exact absurd ⟨j,hj,h4⟩ h3
      ·exact h4⟩
  exact key k' k' (Nat.le_refl _) hk'
 let meas:Act → World → Nat:=fun a' w'=>if h:J a' w' then (hmin a' w' h).choose else 0
 refine wp_loop J meas ⟨k,I,μ,st,h0,R,Step.refl _ _ _,Pre.refl _ _ hn⟩ (fun a1 w1 hJ=>?_)
 have hm:good a1 w1 (meas a1 w1) ∧ ∀ j,good a1 w1 j → meas a1 w1 ≤ j:=by
  have:meas a1 w1 = (hmin a1 w1 hJ).choose:=dif_pos hJ
  rw [this]
  exact (hmin a1 w1 hJ).choose_spec
 obtain ⟨⟨I1,μ1,s1,hI1,R1,S1,p1⟩,_⟩:=hm
 refine wp_mono (round _ s1 hI1 I1 μ1 a1 w1 R1 p1.1) fun e a2 w2 hp=>?_
 obtain ⟨I2,μ2,s2,hQ,R2,S2,p2⟩:=hp
 cases e with
 | normal =>
  obtain ⟨k',hlt,hI2⟩:=hQ
  have hg:good a2 w2 k':=⟨I2,μ2,s2,hI2,R2,S1.trans S2,p1.trans p2⟩
  have hJ2:J a2 w2:=⟨k',hg⟩
  refine ⟨hJ2,?_⟩
  have:meas a2 w2 ≤ k':=by
   have e:meas a2 w2 = (hmin a2 w2 hJ2).choose:=dif_pos hJ2
   rw [e]
   exact (hmin a2 w2 hJ2).choose_spec.2 k' hg
  omega
 | _=>exact ⟨I2,μ2,s2,hQ,R2,S1.trans S2,p1.trans p2⟩
structure LoopN [KN:Know] (P:Program) (n:Nat) (c:Code) (Q:Exit → St → Prop) (st:St):Prop where
 ok:SWP P n (.loop c) Q st
structure DrawN [KN:Know] (P:Program) (n:Nat) (id:Nat) (ops:Array Oper) (Q:Exit → St → Prop) (st:St):Prop where
 ok:SWP P n (.region id ops true) Q st
def ares (P:Program) (st:St):ResultVar → Option AV
 | .tmp t=>some (st.get t)
 | .cell a t=>match st.get a with
  | .ptr k j=>match st.h[k]? with
   | some (.box cs)=>acut P t cs j
   | _=>none
  | _=>none
def aresults (P:Program) (st:St):List ResultVar → Option (List AV)
 | []=>some []
 | r :: rs=>match ares P st r,aresults P st rs with
  | some v,some vs=>some (v :: vs)
  | _,_=>none
def resultAV (vs:List AV):AV:=match vs with | [v]=>v | vs=>.tup vs
structure Returns (P:Program) (n:Nat) (fn:Func) (R:AV → List AObj → Prop) (e:Exit) (st:St):Prop where
 ends:e = .normal ∨ e = .ret
 gives:∃ vs,aresults P st fn.results.toList = some vs ∧ ∃ keep frz m r h',WH n st.h keep frz m h' ∧ WV st.h keep frz m (resultAV vs) r ∧ R r h'
def resOne (tmps:Array Value):ResultVar → Sem Value
 | .tmp t=>Pure.pure (tmps.getD t Go.undef)
 | .cell p t=>do loadVar t (← asAddr (tmps.getD p Go.undef))
theorem results_eq (fn:Func) (tmps:Array Value):results fn tmps = (do
  let vs ← fn.results.mapM (resOne tmps)
  Pure.pure (if h:vs.size = 1 then vs[0] else .tuple vs)):=by
 unfold results
 congr 1
theorem mapM_results [KN:Know] {P:Program} {I:Nat → Prop} {μ:MM} {st:St} {a:Act} {w:World} (R:Rel I μ st a w):∀ (rs:List ResultVar) (vs:List AV),aresults P st rs = some vs →
  ∃ xs:List Value,(rs.mapM (resOne a.tmps)).run P w = .ok xs w ∧ xs.length = vs.length ∧
   ∀ i (hi:i < vs.length) (hi':i < xs.length),RelV I w μ vs[i] xs[i]:=by
 intro rs
 induction rs with
 | nil=>intro vs h; cases h; exact ⟨[],by simp,rfl,fun i hi=>by simp at hi⟩
 | cons r rs ih =>
  intro vs h
  simp only [aresults] at h
  split at h
  ·rename_i v vs' hr hrs
   cases h
   obtain ⟨xs,h1,h2,h3⟩:=ih vs' hrs
   have key:∃ x,(resOne a.tmps r).run P w = .ok x w ∧ RelV I w μ v x:=by
    cases r with
    | tmp t=>cases hr; exact ⟨_,rfl,R.tmps t⟩
    | cell p t =>
     simp only [ares] at hr
     split at hr
     ·rename_i k j hp
      split at hr
      ·rename_i cs hk
       have hv:=R.tmps p
       rw [hp] at hv
       obtain ⟨l,val,hl,hxe,hb,hsz,hc,hv⟩:=Rel.ptr R.heap hk hv
       obtain ⟨x,hx,hrel⟩:=loadVar_ok (off:=j) hr hc hv
       exact ⟨x,by simp [resOne,hxe,asAddr,hx],hrel⟩
      ·cases hr
     ·cases hr
   obtain ⟨x,hx,hrel⟩:=key
   refine ⟨x :: xs,?_,by simp [h2],fun i hi hi'=>?_⟩
   ·simp only [List.mapM_cons,Sem.run_bind,hx,Result.andThen_ok,h1,Sem.run_pure]
   ·cases i with
    | zero=>exact hrel
    | succ i=>exact h3 i (by simpa using hi) (by simpa using hi')
  ·cases h
def argState (fn:Func) (args:List AV) (hs:List AObj):St:={ n:=fn.ntmps,ts:=(List.range args.length).zip args,h:=hs }
theorem look_zip:∀ (args:List AV) (k i:Nat),look i ((List.range' k args.length).zip args) = if k ≤ i ∧ i < k + args.length then args.getD (i - k) .undef else .undef
 | [],k,i=>by
  have h0:¬ (k ≤ i ∧ i < k + ([]:List AV).length):=fun h=>by have h1:=h.1; have h2:i < k + 0:=h.2; omega
  rw [if_neg h0]; rfl
 | v :: vs,k,i=>by
  simp only [List.length_cons,List.range'_succ,List.zip_cons_cons,look]
  split
  ·rename_i h; subst h
   rw [if_pos (by omega)]; simp
  ·rename_i h
   rw [look_zip vs (k + 1) i]
   by_cases h1:k + 1 ≤ i ∧ i < k + 1 + vs.length
   ·rw [if_pos h1,if_pos (by omega),show i - k = (i - (k + 1)) + 1 by omega]
    simp
   ·rw [if_neg h1,if_neg (by omega)]
theorem ACalls.of_swp [KN : Know] {P : Program} {f : FuncId} {fn : Func} {c : Code} {args : List AV} {hs : List AObj} {R : AV → List AObj → Prop} (hf : P.funcs[f]? = some fn) (hb : fn.body = some c) (hname : (fn.name == "runtime.NumGoroutine") = false)
  (hargs:Nat.ble args.length fn.ntmps = true) {st0:St} (hst:argState fn args hs = st0) (h:SWP P hs.length c (Returns P hs.length fn R) st0):ACalls P f args hs R:=by
 subst hst
 replace hargs:=Nat.le_of_ble_eq_true hargs
 intro I μ w vals H ⟨hv1,hv2⟩
 refine .inl ⟨?_,?_⟩
 ·unfold callFunc
  simp only [Sem.run_bind,run_program,Result.andThen_ok,hf,hname,Bool.false_eq_true,if_false,hb,Option.isNone_some,Sem.run_pure]
 ·refine calls_of_wp hf hb ?_
  have R0:Rel I μ (argState fn args hs) { tmps:=vals ++ Array.replicate (fn.ntmps - vals.size) Go.undef,defers:=[] } w:=by
   refine ⟨fun d=>?_,by simp [argState]; omega,rfl,H⟩
   show RelV I w μ (if d < fn.ntmps then look d ((List.range args.length).zip args) else AV.undef) _
   by_cases hd:d < fn.ntmps
   ·rw [if_pos hd,List.range_eq_range',look_zip]
    by_cases h1:d < args.length
    ·rw [if_pos (by omega)]
     have:=hv2 d h1
     rw [getD_of (by omega)] at this
     rw [getD_of (by simp; omega),Array.getElem_append_left (by omega)]
     simpa [List.getElem?_eq_getElem h1] using this
    ·rw [if_neg (by omega)]; exact .undef _ _
   ·rw [if_neg hd]; exact .undef _ _
  refine wp_mono (h I μ _ w R0 (by rw [H.len]; exact Nat.le_refl _)) fun e a' w' hp=>?_
  obtain ⟨I',μ',st',⟨he,vs,hvs,keep,frz,m,r,h',hW,hr,hR⟩,R',S,p⟩:=hp
  obtain ⟨xs,hx1,hx2,hx3⟩:=mapM_results (P:=P) R' fn.results.toList vs hvs
  obtain ⟨H2,S2,p2⟩:=hW.rel R'.heap p.1
  have hres:∃ v,(results fn a'.tmps).run P w' = .ok v w' ∧ RelV I' w' μ' (resultAV vs) v:=by
   have hm:(fn.results.mapM (resOne a'.tmps)).run P w' = .ok xs.toArray w':=by
    rw [Array.mapM_eq_mapM_toList]
    simp only [Sem.run_map,hx1,Result.andThen_ok]
   refine ⟨if h:xs.toArray.size = 1 then xs.toArray[0] else .tuple xs.toArray,?_,?_⟩
   ·rw [results_eq]
    simp only [Sem.run_bind]
    rw [hm]
    rfl
   ·match vs,xs,hx2,hx3 with
    | [],[],_,_=>exact .tup _ [] _ rfl (fun i hi=>by simp at hi)
    | [v],[x],_,h3=>exact h3 0 (by simp) (by simp)
    | v1 :: v2 :: vs,x1 :: x2 :: xs,h2,h3 =>
     rw [dif_neg (by simp)]
     simp only [resultAV]
     refine .tup _ _ _ (by simpa using h2) (fun i hi=>?_)
     have hi':i < (x1 :: x2 :: xs).length:=by rw [h2]; exact hi
     have:=h3 i hi hi'
     rw [getD_of (by simpa using hi')]
     simpa using this
  obtain ⟨v,hv,hvr⟩:=hres
  have fin:∃ v_1 r_1 h'_1 I'_1 μ'_1,Ending.returned v = .returned v_1 ∧ R r_1 h'_1 ∧ RelH I'_1 μ'_1 h'_1 w' ∧ RelV I'_1 w' μ'_1 r_1 v_1 ∧ Step I μ w I'_1 μ'_1 w' ∧ Pre hs.length μ μ'_1 :=
   ⟨v,r,h',_,_,rfl,hR,H2,hr.rel R'.heap hvr,S.trans S2,p.trans p2⟩
  rcases he with rfl | rfl
  ·exact ⟨R'.defers,v,hv,fin⟩
  ·exact ⟨R'.defers,v,hv,fin⟩
end Go.Q
namespace Go.Q
open Go
def tmpsOf (o:Oper):List Nat:=o.op.operands.toList.filterMap fun | .tmp t=>some t | _=>none
def restrict (o:Oper) (st:St):St:=⟨st.n,(tmpsOf o).map (fun t=>(t,st.get t)),st.h⟩
def readsOf (ops:Array Oper) (o:Oper):List Nat :=
 tmpsOf o ++ (match o.guard with | some (j,_)=>((ops[j]?).bind (·.dst)).toList | none=>[])
def isPlainEdge (e:Edge):Bool:=match e.ground with | .textOnly _ | .gcOnly _=>false | _=>true
def pl (o:Oper):List Edge:=o.after.toList.filter isPlainEdge
def befores:List Oper → List (List Nat) → List (List Nat)
 | [],acc=>acc
 | o :: r,acc=>befores r (acc ++ [(pl o).flatMap fun e=>e.on :: acc.getD e.on []])
def clash (ops:Array Oper) (o p:Oper):Bool :=
 (match p.dst with | some t=>o.dst == some t || (readsOf ops o).contains t | none=>false) || (match o.dst with | some t=>(readsOf ops p).contains t | none=>false)
def drawOk (ops:Array Oper):Bool :=
 let b:=befores ops.toList []
 ops.toList.zipIdx.all fun (o,i) =>
  ((pl o).all fun e=>decide (e.on < i)) &&
  ops.toList.zipIdx.all fun (p,j)=>!(decide (j < i)) || !(clash ops o p) || (b.getD i []).contains j
theorem befores_spec [_KN:Know] (ops:Array Oper):∀ (l:List Oper) (k:Nat) (acc:List (List Nat)),acc.length = k → (∀ j,l[j]? = ops.toList[k + j]?) →
  (∀ i,i < k → ∀ o,ops.toList[i]? = some o → ∀ x,x ∈ acc.getD i [] ↔ ∃ e ∈ (pl o),x = e.on ∨ (e.on < i ∧ x ∈ acc.getD e.on [])) → (∀ (i:Nat) (o:Oper),ops.toList[i]? = some o → ∀ e ∈ (pl o),e.on < i) →
  ∀ i,i < k + l.length → ∀ o,ops.toList[i]? = some o → ∀ x,x ∈ (befores l acc).getD i [] ↔ ∃ e ∈ (pl o),x = e.on ∨ (e.on < i ∧ x ∈ (befores l acc).getD e.on []):=by
 intro l
 induction l with
 | nil=>intro k acc hk _ h _ i hi; exact h i (by simpa using hi)
 | cons p r ih =>
  intro k acc hk hl h hE i hi
  simp only [befores]
  have hp:ops.toList[k]? = some p:=by simpa using (hl 0).symm
  refine ih (k + 1) _ (by simp [hk]) (fun j=>by have:=hl (j + 1); simpa [Nat.add_assoc,Nat.add_comm 1 j] using this) (fun i' hi' o ho x=>?_) hE i (by simp at hi; omega)
  have hget:∀ q,q < k → (acc ++ [(pl p).flatMap fun e=>e.on :: acc.getD e.on []]).getD q [] = acc.getD q []:=fun q hq=>by
   simp only [List.getD]
   rw [List.getElem?_append_left (by omega)]
  rcases Nat.lt_or_ge i' k with h1 | h1
  ·rw [hget i' h1,h i' h1 o ho x]
   constructor
   ·rintro ⟨e,he,hx⟩
    refine ⟨e,he,hx.imp id fun ⟨a,b⟩=>⟨a,?_⟩⟩
    rwa [hget e.on (by omega)]
   ·rintro ⟨e,he,hx⟩
    refine ⟨e,he,hx.imp id fun ⟨a,b⟩=>⟨a,?_⟩⟩
    rwa [hget e.on (by omega)] at b
  ·have:i' = k:=by omega
   subst this
   rw [hp] at ho; cases ho
   have e0:(acc ++ [(pl p).flatMap fun e=>e.on :: acc.getD e.on []]).getD i' [] = (pl p).flatMap fun e=>e.on :: acc.getD e.on []:=by
    simp only [List.getD]
    rw [← hk,get_append_self]; rfl
   rw [e0]
   simp only [List.mem_flatMap,List.mem_cons]
   constructor
   ·rintro ⟨e,he,hx⟩
    have hlt:=hE i' p hp e he
    exact ⟨e,he,hx.imp id fun b=>⟨hlt,by rw [hget e.on hlt]; exact b⟩⟩
   ·rintro ⟨e,he,hx⟩
    have hlt:=hE i' p hp e he
    exact ⟨e,he,hx.imp id fun ⟨_,b⟩=>by rwa [hget e.on hlt] at b⟩
structure DrawOk (ops:Array Oper) (B:Nat → List Nat):Prop where
 plain:∀ i o,ops.toList[i]? = some o → ∀ e ∈ (pl o),e.on < i
 bef:∀ i o,ops.toList[i]? = some o → ∀ x,x ∈ B i → ∃ e ∈ (pl o),x = e.on ∨ (e.on < i ∧ x ∈ B e.on)
 clash:∀ i j o p,j < i → ops.toList[i]? = some o → ops.toList[j]? = some p → clash ops o p = true → j ∈ B i
theorem drawOk_ok [KN:Know] {ops:Array Oper} (h:drawOk ops = true):DrawOk ops (fun i=>(befores ops.toList []).getD i []):=by
 simp only [drawOk,List.all_eq_true] at h
 have key:∀ (i:Nat) (o:Oper),ops.toList[i]? = some o → (o,i) ∈ ops.toList.zipIdx:=fun i o ho=>by
  rw [List.mem_zipIdx_iff_getElem?]; exact ho
 have hE:∀ (i:Nat) (o:Oper),ops.toList[i]? = some o → ∀ e ∈ (pl o),e.on < i:=fun i o ho e he=>by
  have:=h _ (key i o ho)
  simp only [Bool.and_eq_true,List.all_eq_true,decide_eq_true_eq] at this
  exact this.1 e he
 refine ⟨hE,fun i o ho x hx=>?_,fun i j o p hji ho hp hc=>?_⟩
 ·have hi:i < ops.toList.length:=by
   rcases Nat.lt_or_ge i ops.toList.length with h1 | h1
   ·exact h1
   ·rw [List.getElem?_eq_none h1] at ho; cases ho
  exact (befores_spec ops ops.toList 0 [] rfl (fun j=>by simp) (fun i hi=>by omega) (fun i o ho e he=>hE i o ho e he) i (by simpa using hi) o ho x).1 hx
 ·have h1:=h _ (key i o ho)
  simp only [Bool.and_eq_true,List.all_eq_true] at h1
  have h2:=h1.2 _ (key j p hp)
  simp only [Bool.or_eq_true,Bool.not_eq_true',decide_eq_false_iff_not,hc,Bool.true_eq_false,or_false] at h2
  rcases h2 with h2 | h2
  ·exact absurd hji h2
  ·exact List.contains_iff_mem.1 h2
structure Order (ops:Array Oper) (π:List Nat):Prop where
 len:π.length = ops.size
 nodup:π.Nodup
 lt:∀ i ∈ π,i < ops.size
 edges:∀ p i,π[p]? = some i → ∀ o,ops.toList[i]? = some o → ∀ e ∈ (pl o),e.on ∈ π.take p
theorem nodup_le:∀ {l acc:List Nat},l.Nodup → (∀ x ∈ l,x ∈ acc) → l.length ≤ acc.length
 | [],_,_,_=>by simp
 | x :: l,acc,hn,hs=>by
  have hx:x ∈ acc:=hs x (by simp)
  rw [List.nodup_cons] at hn
  have ih:=nodup_le (l:=l) (acc:=acc.erase x) hn.2 (fun y hy=>by
   have hne:y ≠ x:=fun e=>hn.1 (e ▸ hy)
   exact (List.mem_erase_of_ne hne).2 (hs y (by simp [hy])))
  rw [List.length_erase_of_mem hx] at ih
  have:=List.length_pos_of_mem hx
  simp only [List.length_cons]
  omega
theorem getD_bool (xs:Array Bool) (i:Nat) (d:Bool) (h:i < xs.size):xs.getD i d = xs[i]:=by simp [Array.getD,h]
theorem linearise_go [_KN:Know] {ops:Array Oper} {B:Nat → List Nat} (D:DrawOk ops B):∀ (fuel t:Nat) (listed:Array Bool) (acc:List Nat),listed.size = ops.size → (∀ i,i < ops.size → (listed.getD i true = true ↔ i ∈ acc)) →
  acc.reverse.Nodup → (∀ i ∈ acc,i < ops.size) → (∀ p i,acc.reverse[p]? = some i → ∀ o,ops.toList[i]? = some o → ∀ e ∈ (pl o),e.on ∈ acc.reverse.take p) → acc.length + fuel = ops.size →
  Order ops (Region.linearise.go .any ops fuel t listed acc):=by
 intro fuel
 induction fuel with
 | zero =>
  intro t listed acc _ _ hn hl he hlen
  simp only [Region.linearise.go]
  exact ⟨by simpa using hlen,hn,fun i hi=>hl i (by simpa using hi),he⟩
 | succ fuel ih =>
  intro t listed acc hs hmem hn hl he hlen
  simp only [Region.linearise.go]
  have hbinds:∀ (i:Nat) (o:Oper),ops.toList[i]? = some o → ∀ e ∈ (pl o),Region.binds .any e = true:=fun i o ho e hee=>by
   have:=(List.mem_filter.1 hee).2
   unfold isPlainEdge at this
   unfold Region.binds
   split at this <;> simp_all
  let rs:=(List.range ops.size).filter fun i=>!listed.getD i true && ((ops[i]?).map (·.after.all fun e=>!Region.binds .any e || listed.getD e.on false)).getD false
  have hrs:∀ i ∈ rs,i < ops.size ∧ i ∉ acc ∧ ∀ (o:Oper),ops.toList[i]? = some o → ∀ e ∈ (pl o),e.on ∈ acc:=by
   intro i hi
   simp only [rs,List.mem_filter,List.mem_range,Bool.and_eq_true,Bool.not_eq_true'] at hi
   obtain ⟨h1,h2,h3⟩:=hi
   refine ⟨h1,fun hm=>?_,fun o ho e hee=>?_⟩
   ·rw [(hmem i h1).2 hm] at h2; cases h2
   ·rw [← Array.getElem?_toList,ho] at h3
    simp only [Option.map_some,Option.getD_some,Array.all_eq_true_iff_forall_mem] at h3
    have:=h3 e (by have:=(List.mem_filter.1 hee).1; simpa using this)
    rw [hbinds i o ho e hee] at this
    simp only [Bool.not_true,Bool.false_or] at this
    have hlt:e.on < ops.size:=by have:=D.plain i o ho e hee; omega
    refine (hmem e.on hlt).1 ?_
    have hlt':e.on < listed.size:=by omega
    rw [getD_bool _ _ _ hlt'] at this ⊢
    exact this
  have hne:rs ≠ []:=by
   intro hempty
   have hex:∃ i,i < ops.size ∧ i ∉ acc:=by
    by_cases hall:∀ i,i < ops.size → i ∈ acc
    ·exfalso
     have:(List.range ops.size).length ≤ acc.length:=by
      have hsub:∀ x ∈ List.range ops.size,x ∈ acc:=fun x hx=>hall x (by simpa using hx)
      exact nodup_le List.nodup_range hsub
     simp at this; omega
    ·obtain ⟨i,h1⟩:=Classical.not_forall.1 hall
     obtain ⟨h2,h3⟩:=Classical.not_imp.1 h1
     exact ⟨i,h2,h3⟩
   have hmin:∃ i,i < ops.size ∧ i ∉ acc ∧ ∀ j,j < i → j ∈ acc:=by
    obtain ⟨i,h1,h2⟩:=hex
    have key:∀ m i,i ≤ m → i < ops.size → i ∉ acc → ∃ i,i < ops.size ∧ i ∉ acc ∧ ∀ j,j < i → j ∈ acc:=by
     intro m
     induction m with
     | zero=>intro i h0 h1 h2; exact ⟨i,h1,h2,fun j hj=>by omega⟩
     | succ m ihm =>
      intro i h0 h1 h2
      by_cases h3:∃ j,j < i ∧ j ∉ acc
      ·obtain ⟨j,h4,h5⟩:=h3; exact ihm j (by omega) (by omega) h5
      ·exact ⟨i,h1,h2,fun j hj=>by
        by_cases h6:j ∈ acc
        ·exact h6
        ·exact absurd ⟨j,hj,h6⟩ h3⟩
    exact key i i (Nat.le_refl _) h1 h2
   obtain ⟨i,h1,h2,h3⟩:=hmin
   have:i ∈ rs:=by
    simp only [rs,List.mem_filter,List.mem_range,Bool.and_eq_true,Bool.not_eq_true']
    refine ⟨h1,?_,?_⟩
    ·cases hb:listed.getD i true with
     | false=>rfl
     | true=>exact absurd ((hmem i h1).1 hb) h2
    ·rw [Array.getElem?_eq_getElem h1]
     simp only [Option.map_some,Option.getD_some,Array.all_eq_true_iff_forall_mem]
     intro e hee
     have ho:ops.toList[i]? = some ops[i]:=by rw [Array.getElem?_toList,Array.getElem?_eq_getElem h1]
     by_cases hpe:isPlainEdge e = true
     case neg =>
      have:Region.binds .any e = false:=by
       unfold isPlainEdge at hpe
       unfold Region.binds
       split at hpe <;> simp_all
      rw [this]; rfl
     have hlt:=D.plain i _ ho e (List.mem_filter.2 ⟨by simpa using hee,hpe⟩)
     have hm:=(hmem e.on (by omega)).2 (h3 e.on hlt)
     have hlt':e.on < listed.size:=by omega
     rw [getD_bool _ _ _ hlt'] at hm ⊢
     simp [hm]
   rw [hempty] at this
   simp at this
  have hlen':0 < rs.length:=List.length_pos_iff.2 hne
  have hidx:t % rs.length < rs.length:=Nat.mod_lt _ hlen'
  show Order ops (match rs[t % rs.length]? with | some i=>Region.linearise.go .any ops fuel (t / rs.length) (listed.setIfInBounds i true) (i :: acc) | none=>acc.reverse)
  rw [List.getElem?_eq_getElem hidx]
  simp only
  obtain ⟨h1,h2,h3⟩:=hrs _ (List.getElem_mem hidx)
  generalize rs[t % rs.length] = i at h1 h2 h3
  refine ih (t / rs.length) _ (i :: acc) (by simp [hs]) (fun j hj=>?_) ?_ (fun j hj=>?_) (fun p j hp o ho e hee=>?_) (by simp; omega)
  ·have hj':j < listed.size:=by omega
   have:=hmem j hj
   rw [getD_bool _ _ _ hj'] at this
   rw [getD_bool _ _ _ (by simpa using hj'),List.mem_cons,Array.getElem_setIfInBounds]
   by_cases hij:i = j
   ·simp [hij]
   ·rw [if_neg hij,this]
    exact ⟨.inr,fun h=>h.resolve_left (fun h=>hij h.symm)⟩
   exact hj'
  ·rw [List.reverse_cons,List.nodup_append]
   refine ⟨hn,by simp,fun a ha b hb e=>?_⟩
   simp only [List.mem_singleton] at hb
   subst hb; subst e
   exact h2 (by simpa using ha)
  ·rcases List.mem_cons.1 hj with rfl | hj
   ·exact h1
   ·exact hl j hj
  ·rw [List.reverse_cons] at hp ⊢
   rcases Nat.lt_or_ge p acc.reverse.length with h4 | h4
   ·rw [List.getElem?_append_left h4] at hp
    have:=he p j hp o ho e hee
    rw [List.take_append_of_le_length (by omega)]
    exact this
   ·rw [List.getElem?_append_right h4] at hp
    have hp0:p - acc.reverse.length = 0:=by
     rcases Nat.eq_zero_or_pos (p - acc.reverse.length) with h5 | h5
     ·exact h5
     ·rw [List.getElem?_eq_none (by simp at h5 ⊢; omega)] at hp; cases hp
    rw [hp0] at hp
    simp only [List.getElem?_cons_zero,Option.some.injEq] at hp
    subst hp
    have:=h3 o ho e hee
    rw [List.take_append_of_le_length (by omega),List.take_of_length_le (by omega)]
    simpa using this
theorem schedule_order [KN:Know] {ops:Array Oper} {B:Nat → List Nat} (D:DrawOk ops B) {mixed:Bool} (hm:mixed = true) (t:Nat):Order ops (Region.schedule mixed ops t):=by
 unfold Region.schedule
 rw [hm]
 simp only [Bool.true_or,if_true]
 exact linearise_go D _ _ _ _ (by simp) (fun i hi=>by simp [Array.getD,hi]) (by simp) (by simp) (fun p i hp=>by simp at hp) (by simp)
theorem Order.before {ops:Array Oper} {B:Nat → List Nat} (D:DrawOk ops B) {π:List Nat} (O:Order ops π):∀ (i p:Nat),π[p]? = some i → ∀ k ∈ B i,k ∈ π.take p:=by
 intro i
 induction i using Nat.strongRecOn with
 | _ i ih =>
  intro p hp k hk
  have hi:i < ops.size:=O.lt i (List.mem_of_getElem? hp)
  have ho:ops.toList[i]? = some ops[i]:=by rw [Array.getElem?_toList,Array.getElem?_eq_getElem hi]
  obtain ⟨e,he,h⟩:=D.bef i _ ho k hk
  have hmem:=O.edges p i hp _ ho e he
  rcases h with rfl | ⟨hlt,hk2⟩
  ·exact hmem
  ·obtain ⟨q,hq,hq2⟩:=List.getElem_of_mem hmem
   simp only [List.length_take] at hq
   rw [List.getElem_take] at hq2
   have:=ih e.on hlt q (by rw [List.getElem?_eq_getElem (by omega),hq2]) k hk2
   exact List.mem_of_mem_take (by
    have:k ∈ (π.take p).take q:=by rw [List.take_take,Nat.min_eq_left (by omega)]; exact this
    exact this)
end Go.Q
namespace Go.Q
open Go
structure SameSt (s t:St):Prop where
 get:∀ d,s.get d = t.get d
 n:s.n = t.n
 h:s.h = t.h
def DO [KN:Know] (P:Program) (o:Oper) (s:St) (av:AV):Prop:=SOp P s.h.length o (fun st''=>st'' = (restrict o s).put o.dst av) (restrict o s)
def OpOK [KN:Know] (P:Program) (ops:Array Oper) (o:Oper) (st:St) (av:AV):Prop :=
 ∃ s,SameSt s st ∧ match o.guard with
  | none=>DO P o s av
  | some (j,want)=>∃ d,(ops[j]?).bind (·.dst) = some d ∧ ((∃ b,s.get d = .lit (.bool b) ∧ ((b = want ∧ DO P o s av) ∨ (b ≠ want ∧ av = .tup []))) ∨ (s.get d = .tup [] ∧ av = .tup []))
def TraceL [KN:Know] (P:Program) (ops:Array Oper):List Oper → St → List AV → St → Prop
 | [],st,tr,sF=>tr = [] ∧ SameSt st sF
 | o :: r,st,tr,sF=>∃ av tr',tr = av :: tr' ∧ OpOK P ops o st av ∧ TraceL P ops r (st.put o.dst av) tr' sF
def seqSt:List Oper → List AV → Nat → St → St
 | o :: r,av :: tr,i + 1,st=>seqSt r tr i (st.put o.dst av)
 | _,_,_,st=>st
theorem put_n (st:St) (d:Option Nat) (v:AV):(st.put d v).n = st.n:=by cases d <;> rfl
theorem put_h (st:St) (d:Option Nat) (v:AV):(st.put d v).h = st.h:=by cases d <;> rfl
theorem act_put_defers (a:Act) (d:Option Nat) (v:Value):(a.put d v).defers = a.defers:=by cases d <;> rfl
theorem put_get (st:St) (d:Option Nat) (v:AV) (t:Nat):(st.put d v).get t = if d = some t ∧ t < st.n then v else st.get t:=by
 cases d with
 | none=>simp [St.put]
 | some k =>
  simp only [St.put,St.get,look,Option.some.injEq]
  by_cases h1:t < st.n
  ·rw [if_pos h1,if_pos h1]
   by_cases h2:k = t
   ·rw [if_pos h2,if_pos ⟨h2,h1⟩]
   ·rw [if_neg h2,if_neg (fun h=>h2 h.1)]
  ·rw [if_neg h1,if_neg h1,if_neg (fun h=>h1 h.2)]
theorem traceL_at [KN:Know] {P:Program} {ops:Array Oper}:∀ {l:List Oper} {st:St} {tr:List AV} {sF:St},TraceL P ops l st tr sF →
  SameSt (seqSt l tr l.length st) sF ∧ ∀ i o,l[i]? = some o → OpOK P ops o (seqSt l tr i st) (tr.getD i .undef) ∧ seqSt l tr (i + 1) st = (seqSt l tr i st).put o.dst (tr.getD i .undef)
 | [],st,tr,sF,h=>by
  obtain ⟨rfl,h⟩:=h
  exact ⟨h,fun i o hi=>by simp at hi⟩
 | o :: r,st,tr,sF,h=>by
  obtain ⟨av,tr',rfl,ho,h⟩:=h
  obtain ⟨h1,h2⟩:=traceL_at h
  refine ⟨h1,fun i p hi=>?_⟩
  cases i with
  | zero =>
   simp only [List.getElem?_cons_zero,Option.some.injEq] at hi
   subst hi
   have e:seqSt (o :: r) (av :: tr') 0 st = st:=by simp [seqSt]
   have e1:seqSt r tr' 0 (st.put o.dst av) = st.put o.dst av:=by cases r <;> cases tr' <;> simp [seqSt]
   rw [e]
   refine ⟨by simpa using ho,?_⟩
   simp only [seqSt,e1,List.getD_cons_zero]
  | succ i =>
   simp only [List.getElem?_cons_succ] at hi
   have:=h2 i p hi
   simpa [seqSt] using this
section
variable {P:Program} {ops:Array Oper} (st0:St) (tr:List AV)
def dstAt (ops:Array Oper) (j:Nat):Option Nat:=(ops[j]?).bind (·.dst)
def GS (ops:Array Oper) (st0:St) (tr:List AV) (S:List Nat):Nat → Nat → AV
 | 0,t=>st0.get t
 | j + 1,t=>if j ∈ S ∧ dstAt ops j = some t ∧ t < st0.n then tr.getD j .undef else GS ops st0 tr S j t
theorem seq_get [_KN:Know] (hstep:∀ i o,ops.toList[i]? = some o → seqSt ops.toList tr (i + 1) st0 = (seqSt ops.toList tr i st0).put o.dst (tr.getD i .undef)) :
  ∀ j,j ≤ ops.size → (seqSt ops.toList tr j st0).n = st0.n ∧ (seqSt ops.toList tr j st0).h = st0.h ∧ ∀ t,(seqSt ops.toList tr j st0).get t = GS ops st0 tr (List.range ops.size) j t:=by
 intro j
 induction j with
 | zero =>
  intro _
  have:seqSt ops.toList tr 0 st0 = st0:=by cases ops.toList <;> cases tr <;> simp [seqSt]
  rw [this]
  exact ⟨rfl,rfl,fun t=>rfl⟩
 | succ j ih =>
  intro hj
  obtain ⟨h1,h2,h3⟩:=ih (by omega)
  have ho:ops.toList[j]? = some ops[j]:=by rw [Array.getElem?_toList,Array.getElem?_eq_getElem (by omega)]
  rw [hstep j _ ho]
  refine ⟨by rw [put_n,h1],by rw [put_h,h2],fun t=>?_⟩
  rw [put_get,h1,h3 t]
  simp only [GS]
  have hd:dstAt ops j = ops[j].dst:=by simp [dstAt,Array.getElem?_eq_getElem (show j < ops.size by omega)]
  rw [hd]
  by_cases hc:ops[j].dst = some t ∧ t < st0.n
  ·rw [if_pos hc,if_pos ⟨by simp; omega,hc⟩]
  ·rw [if_neg hc,if_neg (fun h=>hc h.2)]
theorem GS_stay (S:List Nat) (t:Nat) (i:Nat):∀ j,i ≤ j → (∀ k,i ≤ k → k < j → k ∈ S → dstAt ops k ≠ some t) → GS ops st0 tr S j t = GS ops st0 tr S i t:=by
 intro j
 induction j with
 | zero =>
  intro h _
  have h0:i = 0:=by omega
  rw [h0]
 | succ j ih =>
  intro h hk
  by_cases he:i = j + 1
  ·rw [he]
  ·simp only [GS]
   rw [if_neg (fun hc=>hk j (by omega) (by omega) hc.1 hc.2.1)]
   exact ih (by omega) (fun k h1 h2=>hk k h1 (by omega))
theorem GS_same (S S':List Nat) (t:Nat):∀ i,(∀ k,k < i → dstAt ops k = some t → (k ∈ S ↔ k ∈ S')) → GS ops st0 tr S i t = GS ops st0 tr S' i t:=by
 intro i
 induction i with
 | zero=>intro _; rfl
 | succ i ih =>
  intro h
  simp only [GS]
  rw [ih (fun k hk=>h k (by omega))]
  by_cases hd:dstAt ops i = some t
  ·have:=h i (by omega) hd
   simp only [this]
  ·rw [if_neg (fun hc=>hd hc.2.1),if_neg (fun hc=>hd hc.2.1)]
end
theorem mu_same [KN:Know] {I:Nat → Prop} {μ μ':MM} {h:List AObj} {w w':World} {I':Nat → Prop} (H:RelH I μ h w) (H':RelH I' μ' h w') (p:Pre h.length μ μ'):μ' = μ:=by
 have h1:=H.len
 have h2:=H'.len
 apply List.ext_getElem? 
 intro o
 rcases Nat.lt_or_ge o h.length with h3 | h3
 ·rcases p.2 o h3 with e | e
  ·exact e
  ·have ho:=H'.objs o _ _ (List.getElem?_eq_getElem h3) e
   have hd:=ho.not_gone
   have hx:=List.getElem?_eq_getElem (l:=μ) (i:=o) (by omega)
   have:=H.objs o _ _ (List.getElem?_eq_getElem h3) hx
   rw [hd] at this
   rw [e,hx]
   generalize μ[o] = x at this
   cases this
   rfl
 ·rw [List.getElem?_eq_none (by omega),List.getElem?_eq_none (by omega)]
theorem SWP.draw [KN:Know] {P:Program} {n id:Nat} {ops:Array Oper} {Q:Exit → St → Prop} {st0 sF:St} {tr:List AV} (hm:P.follows .mixedOrders = true) (hd:drawOk ops = true) (ht:TraceL P ops ops.toList st0 tr sF) (hQ:Q .normal sF) :
  SWP P n (.region id ops true) Q st0:=by
 intro I μ a w R hn
 have D:=drawOk_ok hd
 obtain ⟨hF,hAt⟩:=traceL_at ht
 have hseq:=seq_get st0 tr (fun i o ho=>(hAt i o ho).2)
 refine wp_region_draw (fun t=>?_)
 have O:=schedule_order D hm t
 generalize Region.schedule (P.follows .mixedOrders) ops t = π at O
 have hB:∀ p i,π[p]? = some i → ∀ k ∈ (befores ops.toList []).getD i [],k ∈ π.take p:=fun p i hp=>O.before D i p hp
 have clash_of:∀ i k,i < ops.size → k < ops.size → i < k → ∀ t,dstAt ops k = some t → (dstAt ops i = some t ∨ (∀ o,ops.toList[i]? = some o → t ∈ readsOf ops o)) → i ∈ (befores ops.toList []).getD k []:=by
  intro i k hi hk hik t hdk hor
  have ho:ops.toList[i]? = some ops[i]:=by rw [Array.getElem?_toList,Array.getElem?_eq_getElem hi]
  have hp:ops.toList[k]? = some ops[k]:=by rw [Array.getElem?_toList,Array.getElem?_eq_getElem hk]
  have hdk':ops[k].dst = some t:=by simpa [dstAt,Array.getElem?_eq_getElem hk] using hdk
  refine D.clash k i _ _ hik hp ho ?_
  unfold clash
  rw [hdk']
  rcases hor with h1 | h1
  ·have:ops[i].dst = some t:=by simpa [dstAt,Array.getElem?_eq_getElem hi] using h1
   rw [this]; simp
  ·have:=h1 _ ho
   simp [this]
 have clash_of2:∀ i k,i < ops.size → k < ops.size → k < i → ∀ t,dstAt ops k = some t → (dstAt ops i = some t ∨ (∀ o,ops.toList[i]? = some o → t ∈ readsOf ops o)) → k ∈ (befores ops.toList []).getD i []:=by
  intro i k hi hk hik t hdk hor
  have ho:ops.toList[i]? = some ops[i]:=by rw [Array.getElem?_toList,Array.getElem?_eq_getElem hi]
  have hp:ops.toList[k]? = some ops[k]:=by rw [Array.getElem?_toList,Array.getElem?_eq_getElem hk]
  have hdk':ops[k].dst = some t:=by simpa [dstAt,Array.getElem?_eq_getElem hk] using hdk
  refine D.clash i k _ _ hik ho hp ?_
  unfold clash
  rw [hdk']
  rcases hor with h1 | h1
  ·have:ops[i].dst = some t:=by simpa [dstAt,Array.getElem?_eq_getElem hi] using h1
   rw [this]; simp
  ·have:=h1 _ ho
   simp [this]
 have dst_lt:∀ k t,dstAt ops k = some t → k < ops.size:=fun k t h=>by
  unfold dstAt at h
  rcases Nat.lt_or_ge k ops.size with h1 | h1
  ·exact h1
  ·rw [Array.getElem?_eq_none h1] at h; cases h
 let w0:World:={ w with drawn:=w.drawn + 1 }
 have hw0:w0.heap = w.heap:=rfl
 have main:∀ m p,p + m = ops.size → ∀ (I':Nat → Prop) (a':Act) (w':World),(∀ t,RelV I' w' μ (GS ops st0 tr (π.take p) ops.size t) (a'.tmps.getD t Go.undef)) → a'.tmps.size = st0.n → a'.defers = [] → RelH I' μ st0.h w' → Step I μ w I' μ w' →
   wpOps P ops (Post n I μ w Q) (π.drop p) a' w':=by
  intro m
  induction m with
  | zero =>
   intro p hp I' a' w' hT hsz hdf hH hS
   have hpl:p = π.length:=by rw [O.len]; omega
   rw [hpl,List.drop_length]
   refine ⟨I',μ,sF,hQ,⟨fun t=>?_,by rw [hsz,← hF.n,(hseq _ (by simp)).1],hdf,?_⟩,hS,Pre.refl _ _ hn⟩
   ·have h1:=hT t
    rw [hpl,List.take_length] at h1
    rw [GS_same (ops:=ops) st0 tr π (List.range ops.size) t ops.size (fun k hk _=>⟨fun _=>by simpa using hk,fun _=>?_⟩)] at h1
    ·rw [← hF.get t]
     have:=(hseq ops.size (Nat.le_refl _)).2.2 t
     rw [show ops.toList.length = ops.size by simp,this]
     exact h1
    ·-- all have come
     have hall:∀ x ∈ List.range ops.size,x ∈ π:=by
      intro x hx
      by_cases hm:x ∈ π
      ·exact hm
      ·exfalso
       have hlen:=nodup_le (l:=x :: π) (acc:=List.range ops.size) (List.nodup_cons.2 ⟨hm,O.nodup⟩) (fun y hy=>by
        rcases List.mem_cons.1 hy with rfl | hy
        ·exact hx
        ·simpa using O.lt y hy)
       simp [O.len] at hlen
       omega
     exact hall k (by simpa using hk)
   ·rw [← hF.h,(hseq _ (by simp)).2.1]; exact hH
  | succ m ih =>
   intro p hp I' a' w' hT hsz hdf hH hS
   have hplt:p < π.length:=by rw [O.len]; omega
   have hpi:π[p]? = some π[p]:=List.getElem?_eq_getElem hplt
   rw [List.drop_eq_getElem_cons hplt]
   generalize hi:π[p] = i at hpi
   have hilt:i < ops.size:=O.lt i (List.mem_of_getElem? hpi)
   have ho:ops.toList[i]? = some ops[i]:=by rw [Array.getElem?_toList,Array.getElem?_eq_getElem hilt]
   have hnot:i ∉ π.take p:=by
    intro hm
    obtain ⟨q,hq,hq2⟩:=List.getElem_of_mem hm
    simp only [List.length_take] at hq
    rw [List.getElem_take] at hq2
    have:q = p:=(List.getElem?_inj (by omega) O.nodup).1 (by rw [List.getElem?_eq_getElem (by omega),hq2,hpi])
    omega
   have hsucc:π.take (p + 1) = π.take p ++ [i]:=by rw [List.take_succ_eq_append_getElem hplt,hi]
   have later:∀ k t,i < k → k ∈ π.take p → dstAt ops k = some t → (dstAt ops i = some t ∨ (∀ o,ops.toList[i]? = some o → t ∈ readsOf ops o)) → False:=by
    intro k t hik hk hdk hor
    have hin:=clash_of i k hilt (dst_lt k t hdk) hik t hdk hor
    obtain ⟨q,hq,hq2⟩:=List.getElem_of_mem hk
    simp only [List.length_take] at hq
    rw [List.getElem_take] at hq2
    have h3:=hB q k (by rw [List.getElem?_eq_getElem (by omega),hq2]) i hin
    exact hnot (List.mem_of_mem_take (by
     have:i ∈ (π.take p).take q:=by rw [List.take_take,Nat.min_eq_left (by omega)]; exact h3
     exact this))
   have reads:∀ t,t ∈ readsOf ops ops[i] → GS ops st0 tr (π.take p) ops.size t = (seqSt ops.toList tr i st0).get t:=by
    intro t ht
    have hr:∀ o,ops.toList[i]? = some o → t ∈ readsOf ops o:=fun o h=>by rw [ho] at h; cases h; exact ht
    rw [GS_stay st0 tr (π.take p) t i ops.size (by omega) (fun k h1 h2 h3 h4=>by
     rcases Nat.lt_or_ge i k with h5 | h5
     ·exact later k t h5 h3 h4 (.inr hr)
     ·have:k = i:=by omega
      subst this; exact hnot h3)]
    rw [(hseq i (by omega)).2.2 t]
    refine GS_same st0 tr _ _ t i (fun k hk hdk=>⟨fun _=>by simp; omega,fun _=>?_⟩)
    exact hB p i hpi k (clash_of2 i k hilt (by omega) hk t hdk (.inr hr))
   have behind:∀ t,GS ops st0 tr (π.take (p + 1)) ops.size t = if dstAt ops i = some t ∧ t < st0.n then tr.getD i .undef else GS ops st0 tr (π.take p) ops.size t:=by
    intro t
    by_cases hc:dstAt ops i = some t
    ·rw [GS_stay st0 tr (π.take (p + 1)) t (i + 1) ops.size (by omega) (fun k h1 h2 h3 h4=>by
      rw [hsucc] at h3
      rcases List.mem_append.1 h3 with h5 | h5
      ·exact later k t (by omega) h5 h4 (.inl hc)
      ·simp at h5; omega)]
     simp only [GS]
     by_cases hlt:t < st0.n
     ·rw [if_pos ⟨by rw [hsucc]; simp,hc,hlt⟩,if_pos ⟨hc,hlt⟩]
     ·rw [if_neg (fun h=>hlt h.2.2),if_neg (fun h=>hlt h.2)]
      rw [GS_stay st0 tr (π.take p) t i ops.size (by omega) (fun k h1 h2 h3 h4=>by
       rcases Nat.lt_or_ge i k with h5 | h5
       ·exact later k t h5 h3 h4 (.inl hc)
       ·have:k = i:=by omega
        subst this; exact hnot h3)]
      refine GS_same st0 tr _ _ t i (fun k hk _=>?_)
      rw [hsucc]
      constructor
      ·intro h
       rcases List.mem_append.1 h with h5 | h5
       ·exact h5
       ·simp at h5; omega
      ·intro h; simp [h]
    ·rw [if_neg (fun h=>hc h.1)]
     refine GS_same st0 tr _ _ t ops.size (fun k hk hdk=>?_)
     rw [hsucc]
     constructor
     ·intro h
      rcases List.mem_append.1 h with h5 | h5
      ·exact h5
      ·simp only [List.mem_singleton] at h5; subst h5; exact absurd hdk hc
     ·intro h; simp [h]
   obtain ⟨⟨s,hs,hop⟩,_⟩:=hAt i _ ho
   have hsn:s.n = st0.n:=by rw [hs.n,(hseq i (by omega)).1]
   have hsh:s.h = st0.h:=by rw [hs.h,(hseq i (by omega)).2.1]
   have hdst:dstAt ops i = ops[i].dst:=by simp [dstAt,Array.getElem?_eq_getElem hilt]
   have cont:∀ (J:Nat → Prop) (v:Value) (w2:World),RelV J w2 μ (tr.getD i .undef) v → RelH J μ st0.h w2 → Step I' μ w' J μ w2 → wpOps P ops (Post n I μ w Q) (π.drop (p + 1)) (a'.put ops[i].dst v) w2:=by
    intro J v w2 hv hH2 S2
    refine ih (p + 1) (by omega) J _ w2 (fun t=>?_) ?_ (by rw [act_put_defers]; exact hdf) hH2 (hS.trans S2)
    ·rw [behind t,hdst]
     have hold:=(hT t).mono S2.mono (S2.keepI hH)
     cases hdd:ops[i].dst with
     | none=>simpa [Act.put,hdd] using hold
     | some k =>
      simp only [Act.put,Option.some.injEq]
      by_cases hkt:k = t
      ·subst hkt
       by_cases hlt:k < st0.n
       ·rw [if_pos ⟨rfl,hlt⟩]
        have hlt':k < a'.tmps.size:=by rw [hsz]; exact hlt
        rw [show (a'.tmps.setIfInBounds k v).getD k Go.undef = v by simp [Array.getD,hlt']]
        exact hv
       ·rw [if_neg (fun h=>hlt h.2)]
        have:(a'.tmps.setIfInBounds k v).getD k Go.undef = a'.tmps.getD k Go.undef:=by
         have hge:¬ k < a'.tmps.size:=by rw [hsz]; exact hlt
         simp [Array.getD,hge]
        rw [this]; exact hold
      ·rw [if_neg (fun h=>hkt h.1)]
       have:(a'.tmps.setIfInBounds k v).getD t Go.undef = a'.tmps.getD t Go.undef:=by
        by_cases hlt:t < a'.tmps.size
        ·simp [Array.getD,hlt]; rw [Array.getElem_setIfInBounds_ne (by simpa using hlt) hkt]
        ·simp [Array.getD,hlt]
       rw [this]; exact hold
    ·cases hdd:ops[i].dst <;> simp [Act.put,hsz]
   have runop:DO P ops[i] s (tr.getD i .undef) → ops[i].wp P a' w' (wpOps P ops (Post n I μ w Q) (π.drop (p + 1))) (Post n I μ w Q):=by
    intro hdo
    unfold DO at hdo
    have hrestr:Rel I' μ (restrict ops[i] s) a' w':=by
     refine ⟨fun t=>?_,by simp only [restrict]; rw [hsz,hsn],hdf,by simp only [restrict]; rw [hsh]; exact hH⟩
     have hlook:∀ ts:List Nat,look t (ts.map fun t=>(t,s.get t)) = .undef ∨ (t ∈ ts ∧ look t (ts.map fun t=>(t,s.get t)) = s.get t):=by
      intro ts
      induction ts with
      | nil=>exact .inl rfl
      | cons x xs ihx =>
       simp only [List.map_cons,look]
       by_cases hx:x = t
       ·subst hx; rw [if_pos rfl]; exact .inr ⟨by simp,rfl⟩
       ·rw [if_neg hx]
        rcases ihx with h1 | ⟨h1,h2⟩
        ·exact .inl h1
        ·exact .inr ⟨by simp [h1],h2⟩
     show RelV I' w' μ (if t < s.n then look t ((tmpsOf ops[i]).map fun t=>(t,s.get t)) else .undef) _
     by_cases htn:t < s.n
     ·rw [if_pos htn]
      rcases hlook (tmpsOf ops[i]) with h1 | ⟨h1,h2⟩
      ·rw [h1]; exact .undef _ _
      ·rw [h2]
       have h3:=reads t (by unfold readsOf; exact List.mem_append.2 (.inl h1))
       have h4:=hs.get t
       rw [← h4] at h3
       have:=hT t
       rw [h3] at this
       exact this
     ·rw [if_neg htn]; exact .undef _ _
    refine hdo I' μ a' w' hrestr (by rw [hH.len,hsh]; exact Nat.le_refl _) _ _ (fun J ν st'' v w2 e R2 S2 p2=>?_)
    subst e
    have hH2:RelH J ν st0.h w2:=by
     have:=R2.heap
     rw [put_h] at this
     simp only [restrict] at this
     rwa [hsh] at this
    have hν:ν = μ:=mu_same hH hH2 (by rw [hsh] at p2; exact p2)
    subst hν
    cases hdd:ops[i].dst with
    | none =>
     have hz:=cont J v w2
     have:wpOps P ops (Post n I ν w Q) (π.drop (p + 1)) (a'.put ops[i].dst v) w2:=by
      refine ih (p + 1) (by omega) J _ w2 (fun t=>?_) ?_ (by rw [act_put_defers]; exact hdf) hH2 (hS.trans S2)
      ·rw [behind t,hdst,hdd]
       have hold:=(hT t).mono S2.mono (S2.keepI hH)
       simpa [Act.put,hdd] using hold
      ·simp [Act.put,hdd,hsz]
     rwa [hdd] at this
    | some k =>
     have hvk:=R2.tmps k
     rw [put_get,hdd] at hvk
     rw [← hdd]
     by_cases hlt:k < s.n
     ·rw [if_pos ⟨rfl,by simpa [restrict] using hlt⟩] at hvk
      have hlt':k < a'.tmps.size:=by rw [hsz,← hsn]; exact hlt
      rw [show (a'.put (some k) v).tmps.getD k Go.undef = v by simp [Act.put,Array.getD,hlt']] at hvk
      exact cont J v w2 hvk hH2 S2
     ·refine ih (p + 1) (by omega) J _ w2 (fun t=>?_) (by simp [Act.put,hdd,hsz]) (by rw [act_put_defers]; exact hdf) hH2 (hS.trans S2)
      rw [behind t,hdst,hdd]
      have hold:=(hT t).mono S2.mono (S2.keepI hH)
      rw [if_neg (fun h=>hlt (by rw [hsn]; rw [Option.some.inj h.1]; exact h.2))]
      simp only [Act.put]
      have:(a'.tmps.setIfInBounds k v).getD t Go.undef = a'.tmps.getD t Go.undef:=by
       have:a'.tmps.setIfInBounds k v = a'.tmps:=by
        apply Array.ext
        ·simp
        ·intro q h1 h2
         rw [Array.getElem_setIfInBounds]
         rw [if_neg (fun e=>hlt (by rw [hsn,← hsz,e]; exact h2))]
       rw [this]
      rw [this]; exact hold
   have hoi:ops[i]? = some ops[i]:=Array.getElem?_eq_getElem hilt
   simp only [wpOps,hoi]
   cases hg:ops[i].guard with
   | none =>
    rw [hg] at hop
    simp only at hop
    rw [if_pos (by simp [Region.wanted,hg])]
    exact .inl (runop hop)
   | some jw =>
    obtain ⟨j,want⟩:=jw
    rw [hg] at hop
    simp only at hop
    obtain ⟨d,hjd,hor⟩:=hop
    have hread:d ∈ readsOf ops ops[i]:=by
     unfold readsOf
     rw [hg]
     simp only
     rw [hjd]
     simp
    rcases hor with ⟨b,hsd,hor⟩ | ⟨hsd,hav⟩
    ·have hv:=hT d
     rw [reads d hread,← hs.get d,hsd] at hv
     have hdn:=get_lt hsd (by simp)
     have hy:yielded ops a'.tmps j = some b:=by
      unfold yielded
      rw [hjd]
      have hlt':d < a'.tmps.size:=by rw [hsz,← hsn]; exact hdn
      have:=hv.lit_eq
      rw [getD_of hlt'] at this
      simp only [Option.bind_some,Array.getElem?_eq_getElem hlt',this]
     rcases hor with ⟨hb,hdo⟩ | ⟨hb,hav⟩
     ·rw [if_pos (by simp [Region.wanted,hg,hy,hb])]
      exact .inl (runop hdo)
     ·rw [if_neg (by simp [Region.wanted,hg,hy,hb])]
      exact cont I' Go.undef w' (by rw [hav]; exact rel_tup0) hH (Step.refl _ _ _)
    ·have hv:=hT d
     rw [reads d hread,← hs.get d,hsd] at hv
     have hdn:=get_lt hsd (by simp)
     have hy:yielded ops a'.tmps j = none:=by
      unfold yielded
      rw [hjd]
      have hlt':d < a'.tmps.size:=by rw [hsz,← hsn]; exact hdn
      have:=tup0_inv hv
      rw [getD_of hlt'] at this
      simp only [Option.bind_some,Array.getElem?_eq_getElem hlt',this]
     rw [if_neg (by simp [Region.wanted,hg,hy])]
     exact cont I' Go.undef w' (by rw [hav]; exact rel_tup0) hH (Step.refl _ _ _)
 have:=main ops.size 0 (by omega) I a w0 (fun t=>?_) R.size R.defers (R.heap.heap_eq hw0) ((Step.refl I μ w).heap_eq hw0 ⟨rfl,rfl⟩)
 ·rw [List.drop_zero] at this; exact this
 ·have h0:GS ops st0 tr (π.take 0) ops.size t = st0.get t:=by
   rw [GS_stay st0 tr (π.take 0) t 0 ops.size (by omega) (fun k _ _ h=>by simp at h)]
   rfl
  rw [h0]
  exact (R.heap_eq hw0).tmps t
end Go.Q
namespace Go.Q
open Go
structure DNode [KN:Know] (P:Program) (o:Oper) (st:St) (K:AV → Prop):Prop where
 ex:∃ av,astep P st.h.length o (fun st''=>st'' = (restrict o st).put o.dst av) (restrict o st) ∧ K av
theorem SameSt.put [_KN:Know] {s t:St} (h:SameSt s t) (d:Option Nat) (v:AV):SameSt (s.put d v) (t.put d v) :=
 ⟨fun k=>by rw [put_get,put_get,h.n,h.get k],by rw [put_n,put_n,h.n],by rw [put_h,put_h,h.h]⟩
theorem SameSt.reput [_KN:Know] {s t:St} (h:SameSt s t) {d:Nat} {v:AV} (hd:s.get d = v):SameSt (s.put (some d) v) t :=
 ⟨fun k=>by
  rw [put_get]
  split
  ·rename_i hc
   have:d = k:=by simpa using hc.1
   subst this
   rw [← h.get d,hd]
  ·exact h.get k,by rw [put_n,h.n],by rw [put_h,h.h]⟩
theorem WH.nil (h:List AObj):WH 0 h [] [] 0 []:=⟨.nil,fun o ho=>by omega,fun o ho=>by simp at ho,rfl,fun i hi=>by simp at hi,fun i h1 h2=>by simp at h2⟩
def pureT:AV → Bool
 | .tup vs=>vs.all pureQ
 | v=>pureQ v
theorem pureT_wv {h:List AObj} {keep frz:List Nat} {m:Nat} {r:AV} (hp:pureT r = true):WV h keep frz m r r:=by
 cases r with
 | tup xs =>
  simp only [pureT,List.all_eq_true] at hp
  exact .tup _ _ rfl (fun i h1 h2=>.same _ (hp _ (List.getElem_mem h1)))
 | _=>exact .same _ hp
def isEnd:Exit → Bool
 | .normal | .ret=>true
 | _=>false
theorem isEnd_ok {e:Exit} (h:isEnd e = true):e = .normal ∨ e = .ret:=by cases e <;> first | exact .inl rfl | exact .inr rfl | cases h
theorem Returns.pure [_KN:Know] {P:Program} {fn:Func} {R:AV → List AObj → Prop} {e:Exit} {st:St} {vs:List AV} {r:AV} (he:isEnd e = true) (hv:aresults P st fn.results.toList = some vs) (hr:resultAV vs = r) (hp:pureT r = true)
  (hR:R r []):Returns P 0 fn R e st:=by
 subst hr
 exact ⟨isEnd_ok he,vs,hv,[],[],0,_,[],WH.nil _,pureT_wv hp,hR⟩
theorem Returns.frozen [_KN:Know] {P:Program} {fn:Func} {R:AV → List AObj → Prop} {e:Exit} {st:St} {vs:List AV} {r:AV} (frz:List Nat) (he:isEnd e = true) (hv:aresults P st fn.results.toList = some vs) (hr:WV st.h [] frz 0 (resultAV vs) r)
  (hR:R r []):Returns P 0 fn R e st :=
 ⟨isEnd_ok he,vs,hv,[],frz,0,r,[],⟨.nil,fun o ho=>by omega,fun o _ h=>by simp at h,rfl,fun i hi=>by simp at hi,fun i h1 h2=>by simp at h2⟩,hr,hR⟩
abbrev Gives [KN:Know] (P:Program) (g:FuncId) (args:List AV) (v:AV):Prop:=ACalls P g args [] (fun r h=>r = v ∧ h = [])
theorem CallN.gives [KN:Know] {P:Program} {n:Nat} {g:FuncId} {args:List AV} {st:St} {K:St → AV → Prop} {v:AV} (h:Gives P g args v) (hp:args.all pureQ = true) (hK:K st (sh2 st.h.length v)):CallN P n g args st K :=
 ⟨CallOK.pure h hp (by
  rintro r h' ⟨rfl,rfl⟩
  simpa using hK)⟩
end Go.Q
namespace Go.Q
open Go
structure BackN (n:Nat) (s:St) (T:St → Prop):Prop where
 ex:∃ s' keep frz m,Weak n s s' keep frz m ∧ T s'
def Seen (st:St) (keep frz:List Nat) (m:Nat):List (Nat × AV) → Prop
 | []=>True
 | (d,v) :: r=>WV st.h keep frz m (st.get d) v ∧ Seen st keep frz m r
theorem Seen.all {st:St} {keep frz:List Nat} {m:Nat}:∀ {ts:List (Nat × AV)},Seen st keep frz m ts → ∀ p ∈ ts,WV st.h keep frz m (st.get p.1) p.2
 | [],_,p,hp=>by simp at hp
 | (d,v) :: r,h,p,hp=>by
  rcases List.mem_cons.1 hp with rfl | hp
  ·exact h.1
  ·exact Seen.all h.2 p hp
def SeenO (h:List AObj) (keep frz:List Nat) (m:Nat):List Nat → List AObj → Prop
 | [],hs=>hs.length = m ∧ ∀ ob ∈ hs,∃ s,ob = .arr s []
 | k :: ks,ob' :: hs=>(∃ ob,h[k]? = some ob ∧ WO h keep frz m ob ob') ∧ SeenO h keep frz m ks hs
 | _ :: _,[]=>False
theorem SeenO.spec {h:List AObj} {keep frz:List Nat} {m:Nat}:∀ {ks:List Nat} {hs:List AObj},SeenO h keep frz m ks hs → hs.length = ks.length + m ∧
  (∀ i (hi:i < ks.length),∃ ob ob',h[ks[i]]? = some ob ∧ hs[i]? = some ob' ∧ WO h keep frz m ob ob') ∧ ∀ i,ks.length ≤ i → i < ks.length + m → ∃ s,hs[i]? = some (.arr s [])
 | [],hs,⟨h1,h2⟩=>by
  refine ⟨by simpa using h1,fun i hi=>by simp at hi,fun i _ hi=>?_⟩
  simp only [List.length_nil,Nat.zero_add] at hi
  have hlt:i < hs.length:=by omega
  obtain ⟨s,e⟩:=h2 _ (List.getElem_mem hlt)
  exact ⟨s,by rw [List.getElem?_eq_getElem hlt,e]⟩
 | k :: ks,ob' :: hs,⟨⟨ob,h1,h2⟩,h3⟩=>by
  obtain ⟨a1,a2,a3⟩:=SeenO.spec h3
  refine ⟨by simp only [List.length_cons]; omega,fun i hi=>?_,fun i h1 h2=>?_⟩
  ·cases i with
   | zero=>exact ⟨ob,ob',h1,rfl,h2⟩
   | succ i=>exact a2 i (by simpa using hi)
  ·cases i with
   | zero=>simp only [List.length_cons] at h1; omega
   | succ i =>
    simp only [List.length_cons] at h1 h2
    obtain ⟨s,e⟩:=a3 i (by omega) (by omega)
    exact ⟨s,by simpa using e⟩
theorem WH.of [_KN:Know] {n:Nat} {h:List AObj} {keep frz:List Nat} {m:Nat} {h':List AObj} (h1:keep.Nodup) (h2:keep.take n = List.range n) (h3:(frz.all fun o=>!keep.contains o) = true) (h4:SeenO h keep frz m keep h'):WH n h keep frz m h':=by
 obtain ⟨a1,a2,a3⟩:=h4.spec
 refine ⟨h1,fun o ho=>?_,fun o ho hk=>?_,a1,a2,a3⟩
 ·have e:(keep.take n)[o]? = some o:=by rw [h2]; simp [ho]
  rw [List.getElem?_take,if_pos ho] at e
  exact e
 ·simp only [List.all_eq_true,Bool.not_eq_true'] at h3
  have:=h3 o ho
  rw [List.contains_iff_mem.2 hk] at this
  cases this
theorem Weak.objs [KN:Know] {n:Nat} {st:St} {keep frz:List Nat} {m k:Nat} {ts:List (Nat × AV)} {hs:List AObj} (h0:k = st.n) (h1:keep.Nodup) (h2:keep.take n = List.range n) (h3:(frz.all fun o=>!keep.contains o) = true) (h4:SeenO st.h keep frz m keep hs)
  (h5:Seen st keep frz m ts):Weak n st ⟨k,ts,hs⟩ keep frz m:=⟨h0,WH.of h1 h2 h3 h4,h5.all⟩
theorem w64 {x:Int} (h:-9223372036854775808 ≤ x ∧ x < 9223372036854775808):IntKind.i64.wrap x = x:=by
 simp only [IntKind.wrap,IntKind.bits,IntKind.signed]
 simp
 omega
end Go.Q
