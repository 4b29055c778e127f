import Derived.WalkKit
namespace Go.Q
open Go
inductive AV where
 | undef
 | lit (v:Value)
 | nils
 | agg (cs:List AV)
 | tup (vs:List AV)
 | vs (s:Nat) (es:List AV)
 | ref (o off len:Nat)
 | ptr (o j:Nat)
 | eptr (o i j:Nat)
 | iptr (c:AV)
 | fn (f:Fn) (first captured:List AV)
 deriving Inhabited
def AV.cells:AV → List AV
 | .agg cs=>cs
 | v=>[v]
structure Loc where
 block:Nat
 base:Nat
 esz:Nat
 size:Nat
inductive Slot where
 | gone
 | nil
 | at (l:Loc)
abbrev MM:=List Slot
def MM.loc (μ:MM) (o:Nat):Option Loc:=match μ[o]? with | some (.at l)=>some l | _=>none
def MM.owns (μ:MM) (b:Nat):Prop:=∃ o l,μ.loc o = some l ∧ l.block = b
inductive RelV (I:Nat → Prop) (w:World):MM → AV → Value → Prop
 | undef (μ:MM) (v:Value):RelV I w μ .undef v
 | lit (μ:MM) (v:Value):RelV I w μ (.lit v) v
 | nils (μ:MM):RelV I w μ .nils (.slice none 0 0)
 | agg (μ:MM) (cs:List AV) (xs:Array Value) (hn:xs.size = cs.length)
   (h:∀ i (hi:i < cs.length),RelV I w μ cs[i] (xs.getD i Go.undef)):RelV I w μ (.agg cs) (.agg xs)
 | tup (μ:MM) (cs:List AV) (xs:Array Value) (hn:xs.size = cs.length)
   (h:∀ i (hi:i < cs.length),RelV I w μ cs[i] (xs.getD i Go.undef)):RelV I w μ (.tup cs) (.tuple xs)
 | vs (μ:MM) (s:Nat) (es:List AV) (a:Option Addr) (cap:Nat) (val:Nat → Nat → Value) (hcap:es.length ≤ cap)
   (ha:0 < es.length → ∃ b off,a = some ⟨b,off,none⟩ ∧ I b ∧ ∀ i j,i < es.length → j < s → w.cell? ⟨b,off + i * s + j,none⟩ = some (val i j))
   (hn:∀ i (hi:i < es.length),(es[i]).cells.length = s)
   (hv:∀ i (hi:i < es.length) j (hj:j < (es[i]).cells.length),RelV I w [] ((es[i]).cells[j]) (val i j)) :
   RelV I w μ (.vs s es) (.slice a es.length cap)
 | ref (μ:MM) (o off len cap:Nat) (l:Loc) (hl:μ.loc o = some l) (hlen:len ≤ cap) (hcap:l.base + (off + cap) * l.esz ≤ l.size) :
   RelV I w μ (.ref o off len) (.slice (some ⟨l.block,l.base + off * l.esz,none⟩) len cap)
 | ref0 (μ:MM) (o:Nat) (hl:μ[o]? = some .nil):RelV I w μ (.ref o 0 0) (.slice none 0 0)
 | refE (μ:MM) (o off:Nat) (l:Loc) (a:Option Addr) (hl:μ.loc o = some l):RelV I w μ (.ref o off 0) (.slice a 0 0)
 | refX (μ:MM) (o off len:Nat) (v:Value) (hl:μ[o]? = some .gone):RelV I w μ (.ref o off len) v
 | ptrX (μ:MM) (o j:Nat) (v:Value) (hl:μ[o]? = some .gone):RelV I w μ (.ptr o j) v
 | eptrX (μ:MM) (o i j:Nat) (v:Value) (hl:μ[o]? = some .gone):RelV I w μ (.eptr o i j) v
 | ptr (μ:MM) (o j:Nat) (l:Loc) (hl:μ.loc o = some l):RelV I w μ (.ptr o j) (.pointer (some ⟨l.block,l.base + j,none⟩))
 | eptr (μ:MM) (o i j:Nat) (l:Loc) (hl:μ.loc o = some l):RelV I w μ (.eptr o i j) (.pointer (some ⟨l.block,l.base + i * l.esz + j,none⟩))
 | iptr (μ:MM) (c:AV) (b off:Nat) (val:Nat → Value) (hI:I b) (hc:∀ j,j < c.cells.length → w.cell? ⟨b,off + j,none⟩ = some (val j))
   (hv:∀ j (hj:j < c.cells.length),RelV I w [] (c.cells[j]) (val j)):RelV I w μ (.iptr c) (.pointer (some ⟨b,off,none⟩))
 | fn (μ:MM) (f:Fn) (first captured:List AV) (fs cs:Array Value) (hf:fs.size = first.length) (hc:cs.size = captured.length)
   (h1:∀ i (hi:i < first.length),RelV I w μ first[i] (fs.getD i Go.undef))
   (h2:∀ i (hi:i < captured.length),RelV I w μ captured[i] (cs.getD i Go.undef)):RelV I w μ (.fn f first captured) (.func f fs cs)
theorem RelV.mono {I I':Nat → Prop} {w w':World} (hI:∀ b,I b → I' b) (hw:∀ b,I b → w'.heap[b]? = w.heap[b]?) {μ:MM} {a:AV} {v:Value}
  (h:RelV I w μ a v):RelV I' w' μ a v:=by
 induction h with
 | undef=>exact .undef ..
 | lit=>exact .lit ..
 | nils=>exact .nils ..
 | agg μ cs xs hn _ ih=>exact .agg μ cs xs hn ih
 | tup μ cs xs hn _ ih=>exact .tup μ cs xs hn ih
 | vs μ s es a cap val hcap ha hn _ ih =>
  refine .vs μ s es a cap val hcap (fun h0=>?_) hn ih
  obtain ⟨b,off,e,hb,hc⟩:=ha h0
  refine ⟨b,off,e,hI b hb,fun i j hi hj=>?_⟩
  rw [← hc i j hi hj]
  unfold World.cell?
  simp only [hw b hb]
 | ref μ o off len cap l hl hlen hcap=>exact .ref μ o off len cap l hl hlen hcap
 | ref0 μ o hl=>exact .ref0 μ o hl
 | refE μ o off l a hl=>exact .refE μ o off l a hl
 | refX μ o off len v hl=>exact .refX μ o off len v hl
 | ptrX μ o j v hl=>exact .ptrX μ o j v hl
 | eptrX μ o i j v hl=>exact .eptrX μ o i j v hl
 | ptr μ o j l hl=>exact .ptr μ o j l hl
 | eptr μ o i j l hl=>exact .eptr μ o i j l hl
 | iptr μ c b off val hb hc _ ih =>
  refine .iptr μ c b off val (hI b hb) (fun j hj=>?_) ih
  rw [← hc j hj]
  unfold World.cell?
  simp only [hw b hb]
 | fn μ f first captured fs cs hf hc _ _ ih1 ih2=>exact .fn μ f first captured fs cs hf hc ih1 ih2
def MM.Sub (μ μ':MM):Prop:=∀ (o:Nat) (x:Slot),μ[o]? = some x → μ'[o]? = some x ∨ μ'[o]? = some .gone
theorem MM.loc_some {μ:MM} {o:Nat} {l:Loc}:μ.loc o = some l ↔ μ[o]? = some (.at l):=by
 unfold MM.loc
 constructor
 ·intro h
  split at h
  ·rename_i l' e; rw [e]; cases h; rfl
  ·cases h
 ·intro h; rw [h]
theorem RelV.sub {I:Nat → Prop} {w:World} {μ μ':MM} (hs:μ.Sub μ') {a:AV} {v:Value} (h:RelV I w μ a v):RelV I w μ' a v:=by
 induction h generalizing μ' with
 | undef=>exact .undef ..
 | lit=>exact .lit ..
 | nils=>exact .nils ..
 | agg μ cs xs hn _ ih=>exact .agg _ cs xs hn (fun i hi=>ih i hi hs)
 | tup μ cs xs hn _ ih=>exact .tup _ cs xs hn (fun i hi=>ih i hi hs)
 | vs μ s es a cap val hcap ha hn hv ih=>exact .vs _ s es a cap val hcap ha hn hv
 | ref μ o off len cap l hl hlen hcap =>
  rcases hs o _ (MM.loc_some.1 hl) with h1 | h1
  ·exact .ref _ o off len cap l (MM.loc_some.2 h1) hlen hcap
  ·exact .refX _ o off len _ h1
 | ref0 μ o hl =>
  rcases hs o _ hl with h1 | h1
  ·exact .ref0 _ o h1
  ·exact .refX _ o 0 0 _ h1
 | refE μ o off l a hl =>
  rcases hs o _ (MM.loc_some.1 hl) with h1 | h1
  ·exact .refE _ o off l a (MM.loc_some.2 h1)
  ·exact .refX _ o off 0 _ h1
 | refX μ o off len v hl=>exact .refX _ o off len v ((hs o _ hl).elim id id)
 | ptrX μ o j v hl=>exact .ptrX _ o j v ((hs o _ hl).elim id id)
 | eptrX μ o i j v hl=>exact .eptrX _ o i j v ((hs o _ hl).elim id id)
 | ptr μ o j l hl =>
  rcases hs o _ (MM.loc_some.1 hl) with h1 | h1
  ·exact .ptr _ o j l (MM.loc_some.2 h1)
  ·exact .ptrX _ o j _ h1
 | eptr μ o i j l hl =>
  rcases hs o _ (MM.loc_some.1 hl) with h1 | h1
  ·exact .eptr _ o i j l (MM.loc_some.2 h1)
  ·exact .eptrX _ o i j _ h1
 | iptr μ c b off val hb hc hv ih=>exact .iptr _ c b off val hb hc hv
 | fn μ f first captured fs cs hf hc _ _ ih1 ih2=>exact .fn _ f first captured fs cs hf hc (fun i hi=>ih1 i hi hs) (fun i hi=>ih2 i hi hs)
theorem MM.sub_nil (μ:MM):MM.Sub [] μ:=fun o x h=>by simp at h
theorem MM.sub_refl (μ:MM):MM.Sub μ μ:=fun _o _x h=>.inl h
theorem MM.sub_append (μ ν:MM):MM.Sub μ (μ ++ ν):=fun o x h=>by
 refine .inl ?_
 rcases Nat.lt_or_ge o μ.length with h1 | h1
 ·rw [List.getElem?_append_left h1]; exact h
 ·rw [List.getElem?_eq_none h1] at h; cases h
theorem MM.sub_set (μ:MM) (k:Nat):MM.Sub μ (μ.set k .gone):=fun o x h=>by
 rcases Nat.lt_or_ge o μ.length with h1 | h1
 ·by_cases e:k = o
  ·subst e; exact .inr (by simp [h1])
  ·exact .inl (by rw [List.getElem?_set_ne e]; exact h)
 ·rw [List.getElem?_eq_none h1] at h; cases h
theorem RelV.any {I:Nat → Prop} {w:World} {μ:MM} {a:AV} {v:Value} (h:RelV I w [] a v):RelV I w μ a v:=h.sub (MM.sub_nil μ)
end Go.Q
namespace Go.Q
open Go
inductive AObj where
 | dead
 | arr (s:Nat) (es:List AV)
 | box (cs:List AV)
 deriving Inhabited
structure St where
 n:Nat
 ts:List (Nat × AV)
 h:List AObj
def look (d:Nat):List (Nat × AV) → AV
 | []=>.undef
 | (k,v) :: r=>if k = d then v else look d r
def St.get (st:St) (d:Nat):AV:=if d < st.n then look d st.ts else .undef
def St.put (st:St) (d:Option Nat) (v:AV):St:=match d with | some d=>{ st with ts:=(d,v) :: st.ts } | none=>st
def BlockOK (w:World) (l:Loc):Prop:=∃ cells T lo hi,w.heap[l.block]? = some (.cells cells T (lo,hi)) ∧ cells.size = l.size ∧ ∀ k,k < l.size → ¬ (lo ≤ k ∧ k < hi)
def AV.force (v:AV) (K:AV → Prop):Prop :=
 match v with
 | .undef=>K .undef
 | .lit (.int k n)=>K (.lit (.int k n))
 | .lit (.bool b)=>K (.lit (.bool b))
 | .lit (.string s)=>K (.lit (.string s))
 | .lit u=>K (.lit u)
 | .nils=>K .nils
 | .agg cs=>K (.agg cs)
 | .tup xs=>K (.tup xs)
 | .vs s es=>K (.vs s es)
 | .ref o off len=>K (.ref o off len)
 | .ptr o j=>K (.ptr o j)
 | .eptr o i j=>K (.eptr o i j)
 | .iptr c=>K (.iptr c)
 | .fn f a b=>K (.fn f a b)
def St.putK (st:St) (d:Option Nat) (v:AV) (K:St → Prop):Prop :=
 v.force fun v=>match st with
  | ⟨n,ts,h⟩=>match d with
   | some d=>K ⟨n,(d,v) :: ts,h⟩
   | none=>K ⟨n,ts,h⟩
theorem St.putK_eq (st:St) (d:Option Nat) (v:AV) (K:St → Prop):st.putK d v K = K (st.put d v):=by
 cases st with
 | mk n ts h =>
  cases d <;> cases v <;> first | rfl | (rename_i u; cases u <;> rfl)
inductive RelO (I:Nat → Prop) (w:World) (μ:MM):AObj → Slot → Prop
 | dead:RelO I w μ .dead .gone
 | arr0 (s:Nat):RelO I w μ (.arr s []) .nil
 | arr (s:Nat) (es:List AV) (l:Loc) (val:Nat → Nat → Value) (hs:l.esz = s) (hb:BlockOK w l) (hsz:l.base + es.length * s ≤ l.size)
   (hn:∀ i (hi:i < es.length),(es[i]).cells.length = s)
   (hc:∀ i j,i < es.length → j < s → w.cell? ⟨l.block,l.base + i * s + j,none⟩ = some (val i j))
   (hv:∀ i (hi:i < es.length) j (hj:j < (es[i]).cells.length),RelV I w [] ((es[i]).cells[j]) (val i j)):RelO I w μ (.arr s es) (.at l)
 | box (cs:List AV) (l:Loc) (val:Nat → Value) (hb:BlockOK w l) (hsz:l.base + cs.length ≤ l.size)
   (hc:∀ j,j < cs.length → w.cell? ⟨l.block,l.base + j,none⟩ = some (val j))
   (hv:∀ j (hj:j < cs.length),RelV I w μ cs[j] (val j)):RelO I w μ (.box cs) (.at l)
theorem RelO.blockOK {I:Nat → Prop} {w:World} {μ:MM} {ob:AObj} {l:Loc} (h:RelO I w μ ob (.at l)):BlockOK w l:=by
 generalize e:Slot.at l = x at h
 cases h with
 | dead=>cases e
 | arr0=>cases e
 | arr s es l' val hs hb=>cases e; exact hb
 | box cs l' val hb=>cases e; exact hb
class Know where
 low:Nat → Prop
 holds:World → Prop
 stays:∀ {w w':World},(∀ b,low b → w'.heap[b]? = w.heap[b]?) → holds w → holds w'
def Knows [KN:Know] (I:Nat → Prop) (w:World):Prop:=(∀ b,KN.low b → I b) ∧ KN.holds w
theorem Knows.step [KN:Know] {I I':Nat → Prop} {w w':World} (H:Knows I w) (hI:∀ b,I b → I' b) (hw:∀ b,I b → w'.heap[b]? = w.heap[b]?):Knows I' w' :=
 ⟨fun b hb=>hI b (H.1 b hb),KN.stays (fun b hb=>hw b (H.1 b hb)) H.2⟩
abbrev Know.none:Know:=⟨fun _=>False,fun _=>True,fun _ h=>h⟩
theorem Knows.none (I:Nat → Prop) (w:World):@Knows Know.none I w:=⟨fun _ h=>False.elim h,trivial⟩
structure RelH [KN:Know] (I:Nat → Prop) (μ:MM) (h:List AObj) (w:World):Prop where
 len:μ.length = h.length
 objs:∀ (o:Nat) (ob:AObj) (x:Slot),h[o]? = some ob → μ[o]? = some x → RelO I w μ ob x
 notI:∀ b,μ.owns b → ¬ I b
 apart:∀ (o o':Nat) (l l':Loc),μ.loc o = some l → μ.loc o' = some l' → l.block = l'.block → o = o'
 imm:∀ b,I b → b < w.heap.size
 know:Knows I w
structure Rel [KN:Know] (I:Nat → Prop) (μ:MM) (st:St) (a:Act) (w:World):Prop where
 tmps:∀ d,RelV I w μ (st.get d) (a.tmps.getD d Go.undef)
 size:a.tmps.size = st.n
 defers:a.defers = []
 heap:RelH I μ st.h w
structure Step (I:Nat → Prop) (μ:MM) (w:World) (I':Nat → Prop) (μ':MM) (w':World):Prop where
 mono:∀ b,I b → I' b
 grow:w.heap.size ≤ w'.heap.size
 same:∀ b,b < w.heap.size → ¬ μ.owns b → w'.heap[b]? = w.heap[b]?
 own:∀ b,μ'.owns b → μ.owns b ∨ w.heap.size ≤ b
 imm:∀ b,I' b → I b ∨ μ.owns b ∨ w.heap.size ≤ b
 ext:w'.os = w.os ∧ w'.output = w.output
def Pre (n:Nat) (μ μ':MM):Prop:=n ≤ μ'.length ∧ ∀ (o:Nat),o < n → μ'[o]? = μ[o]? ∨ μ'[o]? = some .gone
theorem Step.refl (I:Nat → Prop) (μ:MM) (w:World):Step I μ w I μ w:=⟨fun _ h=>h,Nat.le_refl _,fun _ _ _=>rfl,fun _ h=>.inl h,fun _ h=>.inl h,rfl,rfl⟩
theorem Step.trans {I I' I'':Nat → Prop} {μ μ' μ'':MM} {w w' w'':World} (h:Step I μ w I' μ' w') (h':Step I' μ' w' I'' μ'' w''):Step I μ w I'' μ'' w'':=by
 refine ⟨fun b hb=>h'.mono b (h.mono b hb),Nat.le_trans h.grow h'.grow,fun b hb hn=>?_,fun b hb=>?_,fun b hb=>?_,⟨h'.ext.1.trans h.ext.1,h'.ext.2.trans h.ext.2⟩⟩
 ·rw [h'.same b (Nat.lt_of_lt_of_le hb h.grow) (fun ho=>?_),h.same b hb hn]
  rcases h.own b ho with h1 | h1
  ·exact hn h1
  ·omega
 ·rcases h'.own b hb with h1 | h1
  ·exact h.own b h1
  ·exact .inr (Nat.le_trans h.grow h1)
 ·rcases h'.imm b hb with h1 | h1 | h1
  ·exact h.imm b h1
  ·rcases h.own b h1 with h2 | h2
   ·exact .inr (.inl h2)
   ·exact .inr (.inr h2)
  ·exact .inr (.inr (Nat.le_trans h.grow h1))
theorem Pre.refl (n:Nat) (μ:MM) (h:n ≤ μ.length):Pre n μ μ:=⟨h,fun _ _=>.inl rfl⟩
theorem Pre.trans {n:Nat} {μ μ' μ'':MM} (h:Pre n μ μ') (h':Pre n μ' μ''):Pre n μ μ'':=by
 refine ⟨h'.1,fun o ho=>?_⟩
 rcases h'.2 o ho with e | e
 ·rcases h.2 o ho with e2 | e2
  ·exact .inl (e.trans e2)
  ·exact .inr (e.trans e2)
 ·exact .inr e
theorem Pre.mono {n m:Nat} {μ μ':MM} (h:Pre n μ μ') (hm:m ≤ n):Pre m μ μ':=⟨Nat.le_trans hm h.1,fun o ho=>h.2 o (Nat.lt_of_lt_of_le ho hm)⟩
theorem RelH.size_owned [KN:Know] {I:Nat → Prop} {μ:MM} {h:List AObj} {w:World} (H:RelH I μ h w) {b:Nat} (hb:μ.owns b):b < w.heap.size:=by
 obtain ⟨o,l,hl,rfl⟩:=hb
 have hx:=MM.loc_some.1 hl
 have ho:o < μ.length:=by
  rcases Nat.lt_or_ge o μ.length with h1 | h1
  ·exact h1
  ·rw [List.getElem?_eq_none h1] at hx; cases hx
 have ho':o < h.length:=H.len ▸ ho
 have hob:=H.objs o h[o] (.at l) (List.getElem?_eq_getElem ho') hx
 have hok:BlockOK w l:=hob.blockOK
 obtain ⟨cells,T,lo,hi,e,_⟩:=hok
 rcases Nat.lt_or_ge l.block w.heap.size with h1 | h1
 ·exact h1
 ·rw [Array.getElem?_eq_none h1] at e; cases e
theorem Step.keepI [KN:Know] {I I':Nat → Prop} {μ μ':MM} {w w':World} {h:List AObj} (H:RelH I μ h w) (S:Step I μ w I' μ' w'):∀ b,I b → w'.heap[b]? = w.heap[b]? :=
 fun b hb=>S.same b (H.imm b hb) (fun ho=>H.notI b ho hb)
theorem cell_same {w w':World} {b off:Nat} (h:w'.heap[b]? = w.heap[b]?):w'.cell? ⟨b,off,none⟩ = w.cell? ⟨b,off,none⟩:=by
 unfold World.cell?; simp only [h]
theorem BlockOK.same {w w':World} {l:Loc} (h:w'.heap[l.block]? = w.heap[l.block]?) (H:BlockOK w l):BlockOK w' l:=by
 obtain ⟨c,T,lo,hi,e,hs⟩:=H
 exact ⟨c,T,lo,hi,by rw [h]; exact e,hs⟩
theorem RelO.mono [_KN:Know] {I I':Nat → Prop} {w w':World} {μ μ':MM} {ob:AObj} {x:Slot} (hI:∀ b,I b → I' b) (hw:∀ b,I b → w'.heap[b]? = w.heap[b]?)
  (hs:∀ a v,RelV I w μ a v → RelV I w μ' a v) (hl:∀ l,x = .at l → w'.heap[l.block]? = w.heap[l.block]?) (h:RelO I w μ ob x):RelO I' w' μ' ob x:=by
 cases h with
 | dead=>exact .dead
 | arr0 s=>exact .arr0 s
 | arr s es l val hse hb hsz hn hc hv =>
  exact .arr s es l val hse (hb.same (hl l rfl)) hsz hn (fun i j hi hj=>by rw [cell_same (hl l rfl)]; exact hc i j hi hj) (fun i hi j hj=>(hv i hi j hj).mono hI hw)
 | box cs l val hb hsz hc hv =>
  exact .box cs l val (hb.same (hl l rfl)) hsz (fun j hj=>by rw [cell_same (hl l rfl)]; exact hc j hj) (fun j hj=>(hs _ _ (hv j hj)).mono hI hw)
end Go.Q
namespace Go.Q
open Go
def constCell:Value → AV
 | .slice none 0 0=>.nils
 | v=>.lit v
def constAV:Value → AV
 | .agg cs=>.agg (cs.toList.map constCell)
 | v=>constCell v
def aeval (st:St):Operand → AV
 | .tmp t=>st.get t
 | .const v=>constAV v
 | .func f=>.fn (.func f) [] []
 | .global g=>.lit (.pointer (some ⟨g,0,none⟩))
theorem rel_constCell {I:Nat → Prop} {w:World} {μ:MM} (v:Value):RelV I w μ (constCell v) v:=by
 unfold constCell
 split
 ·exact .nils _
 ·exact .lit _ _
theorem rel_constAV [_KN:Know] {I:Nat → Prop} {w:World} {μ:MM} (v:Value):RelV I w μ (constAV v) v:=by
 unfold constAV
 split
 ·rename_i cs
  refine .agg _ _ _ (by simp) (fun i hi=>?_)
  have hi':i < cs.size:=by simpa using hi
  simp only [List.getElem_map]
  rw [show cs.getD i Go.undef = cs[i] by simp [Array.getD,hi']]
  have:cs.toList[i]'(by simpa using hi') = cs[i]:=by simp
  rw [this]
  exact rel_constCell _
 ·exact rel_constCell v
theorem Rel.eval [KN:Know] {I:Nat → Prop} {μ:MM} {st:St} {a:Act} {w:World} (R:Rel I μ st a w) (x:Operand):RelV I w μ (aeval st x) (a.eval x):=by
 cases x with
 | tmp t=>exact R.tmps t
 | const v=>exact rel_constAV v
 | global g=>exact .lit _ _
 | func f=>exact .fn _ _ _ _ _ _ rfl rfl (fun i hi=>by simp at hi) (fun i hi=>by simp at hi)
theorem Rel.put [KN:Know] {I:Nat → Prop} {μ:MM} {st:St} {a:Act} {w:World} (R:Rel I μ st a w) {av:AV} {v:Value} (hv:RelV I w μ av v) (d:Option Nat) :
  Rel I μ (st.put d av) (a.put d v) w:=by
 cases d with
 | none=>exact R
 | some k =>
  refine ⟨fun j=>?_,?_,R.defers,R.heap⟩
  ·have hj:=R.tmps j
   have hs:=R.size
   simp only [St.put,St.get,Act.put,look]
   simp only [St.get] at hj
   by_cases hjn:j < st.n
   ·rw [if_pos hjn]
    rw [if_pos hjn] at hj
    have hj':j < a.tmps.size:=by omega
    by_cases hk:k = j
    ·subst hk
     rw [if_pos rfl]
     rw [show (a.tmps.setIfInBounds k v).getD k Go.undef = v by simp [Array.getD,hj']]
     exact hv
    ·rw [if_neg hk]
     rw [show (a.tmps.setIfInBounds k v).getD j Go.undef = a.tmps.getD j Go.undef by simp [Array.getD,hj']; rw [Array.getElem_setIfInBounds_ne (by simpa using hj') hk]]
     exact hj
   ·rw [if_neg hjn]
    exact .undef _ _
  ·simp only [St.put,Act.put,Array.size_setIfInBounds]; exact R.size
def SOp [KN:Know] (P:Program) (n:Nat) (o:Oper) (N:St → Prop) (st:St):Prop :=
 ∀ I μ a w,Rel I μ st a w → n ≤ μ.length → ∀ (next:Act → World → Prop) (Q:Exit → Act → World → Prop),
  (∀ I' μ' st' v w',N st' → Rel I' μ' st' (a.put o.dst v) w' → Step I μ w I' μ' w' → Pre n μ μ' → next (a.put o.dst v) w') → o.wp P a w next Q
theorem SOp.pure [KN:Know] {P:Program} {n:Nat} {o:Oper} {N:St → Prop} {st:St} {av:AV}
  (h:∀ I μ a w,Rel I μ st a w → ∃ v,(execOp a.eval o).run P w = .ok (.value v) w ∧ RelV I w μ av v) (hN:N (st.put o.dst av)):SOp P n o N st:=by
 intro I μ a w R hn next Q hk
 obtain ⟨v,hr,hv⟩:=h I μ a w R
 unfold Oper.wp
 rw [hr]
 exact hk _ _ _ _ _ hN (R.put hv o.dst) (Step.refl _ _ _) (Pre.refl _ _ hn)
structure Side (C K:Prop):Prop where
 c:C
 k:K
structure At (es:List AV) (i:Nat) (K:AV → Prop):Prop where
 ex:∃ e,es[i]? = some e ∧ K e
structure Arith (k:IntKind) (x:Int) (K:Int → Prop):Prop where
 ex:∃ y,k.wrap x = y ∧ K y
def ifK (c:Prop) [Decidable c] (A:Prop):Prop:=if c then A else False
theorem ifK_elim {c:Prop} [Decidable c] {A:Prop} (h:ifK c A):c ∧ A:=by
 unfold ifK at h
 split at h
 ·rename_i hc; exact ⟨hc,h⟩
 ·exact h.elim
theorem ifK_intro {c:Prop} [Decidable c] {A:Prop} (hc:c) (h:A):ifK c A:=by unfold ifK; rw [if_pos hc]; exact h
def isBool (P:Program) (t:TypeId):Bool:=match P.underlying t with | some .bool=>true | _=>false
theorem isBool_ok {P:Program} {t:TypeId} (h:isBool P t = true):P.underlying t = some .bool:=by
 unfold isBool at h
 split at h
 ·assumption
 ·cases h
def abin (P:Program) (op:BinOp) (t:TypeId) (x y:AV) (K:AV → Prop):Prop :=
 match x,y with
 | .lit (.int k a),.lit (.int k' b) =>
  match op with
  | .add=>ifK (k = k') (Arith k (a + b) (fun y=>K (.lit (.int k y))))
  | .sub=>ifK (k = k') (Arith k (a - b) (fun y=>K (.lit (.int k y))))
  | .mul=>ifK (k = k') (Arith k (a * b) (fun y=>K (.lit (.int k y))))
  | .quo=>ifK (k = k') (Side (b ≠ 0) (K (.lit (.int k (k.wrap (a.tdiv b))))))
  | .rem=>ifK (k = k') (Side (b ≠ 0) (K (.lit (.int k (a.tmod b)))))
  | .eql=>ifK (k = k') (K (.lit (.bool (a == b))))
  | .neq=>ifK (k = k') (K (.lit (.bool (a != b))))
  | .lss=>ifK (k = k') (K (.lit (.bool (decide (a < b)))))
  | .leq=>ifK (k = k') (K (.lit (.bool (decide (a ≤ b)))))
  | .gtr=>ifK (k = k') (K (.lit (.bool (decide (a > b)))))
  | .geq=>ifK (k = k') (K (.lit (.bool (decide (a ≥ b)))))
  | .shl=>Side (0 ≤ b) (K (.lit (.int k (k.wrap (a * 2 ^ (min b.toNat k.bits))))))
  | .shr=>Side (0 ≤ b) (K (.lit (.int k (a.fdiv (2 ^ (min b.toNat k.bits))))))
  | .and=>ifK (k = k') (K (.lit (.int k (k.wrap (BitVec.ofInt k.bits a &&& BitVec.ofInt k.bits b).toNat))))
  | .or=>ifK (k = k') (K (.lit (.int k (k.wrap (BitVec.ofInt k.bits a ||| BitVec.ofInt k.bits b).toNat))))
  | .xor=>ifK (k = k') (K (.lit (.int k (k.wrap (BitVec.ofInt k.bits a ^^^ BitVec.ofInt k.bits b).toNat))))
  | .andNot=>ifK (k = k') (K (.lit (.int k (k.wrap (BitVec.ofInt k.bits a &&& ~~~ BitVec.ofInt k.bits b).toNat))))
 | .lit (.string a),.lit (.string b) =>
  match op with
  | .add=>Side (((a.size + b.size:Nat):Int) ≤ 9223372036854775807) (K (.lit (.string (a ++ b))))
  | .eql=>K (.lit (.bool (a.toList == b.toList)))
  | .neq=>K (.lit (.bool !(a.toList == b.toList)))
  | _=>False
 | .lit (.bool a),.lit (.bool b) =>
  match op with
  | .eql=>ifK (isBool P t = true) (K (.lit (.bool (a == b))))
  | .neq=>ifK (isBool P t = true) (K (.lit (.bool (!(a == b)))))
  | _=>False
 | _,_=>False
theorem eqGuard_int {P:Program} {w:World} (op:BinOp) (t:TypeId) (x y:Operand) (k k':IntKind) (a b:Int) :
  (eqGuard op t x y (.int k a) (.int k' b)).run P w = .ok () w:=by
 unfold eqGuard
 simp only [Sem.run_ite,Sem.run_pure]
 split <;> simp
theorem eqGuard_string {P:Program} {w:World} (op:BinOp) (t:TypeId) (x y:Operand) (a b:ByteArray) :
  (eqGuard op t x y (.string a) (.string b)).run P w = .ok () w:=by
 unfold eqGuard
 simp only [Sem.run_ite,Sem.run_pure]
 split <;> simp
theorem eqGuard_bool {P:Program} {w:World} (op:BinOp) (t:TypeId) (x y:Operand) (a b:Bool) :
  (eqGuard op t x y (.bool a) (.bool b)).run P w = .ok () w:=by
 unfold eqGuard
 simp only [Sem.run_ite,Sem.run_pure]
 split <;> simp
theorem RelV.lit_eq {I:Nat → Prop} {w:World} {μ:MM} {u v:Value} (h:RelV I w μ (.lit u) v):v = u:=by cases h; rfl
theorem abin_ok [_KN:Know] {P:Program} {op:BinOp} {t:TypeId} {x y:AV} {K:AV → Prop} (h:abin P op t x y K) :
  ∃ av,K av ∧ ∀ (I:Nat → Prop) (w:World) (μ:MM) (u v:Value) (ox oy:Operand),RelV I w μ x u → RelV I w μ y v →
   ∃ r,(do eqGuard op t ox oy u v; binOp op t u v:Sem Value).run P w = .ok r w ∧ RelV I w μ av r:=by
 unfold abin at h
 split at h
 ·rename_i k a k' b
  have fin:∀ av:AV,∀ r:Value,av = .lit r → K av → (∀ w:World,(binOp op t (.int k a) (.int k' b)).run P w = .ok r w) →
    ∃ av,K av ∧ ∀ (I:Nat → Prop) (w:World) (μ:MM) (u v:Value) (ox oy:Operand),RelV I w μ (.lit (.int k a)) u → RelV I w μ (.lit (.int k' b)) v →
     ∃ r,(do eqGuard op t ox oy u v; binOp op t u v:Sem Value).run P w = .ok r w ∧ RelV I w μ av r:=by
   intro av r e hK hr
   refine ⟨av,hK,fun I w μ u v ox oy hu hv=>?_⟩
   obtain rfl:=hu.lit_eq
   obtain rfl:=hv.lit_eq
   refine ⟨r,?_,by subst e; exact .lit _ _⟩
   simp only [Sem.run_bind,eqGuard_int,Result.andThen_ok]
   exact hr w
  cases op <;> dsimp only at h
  case add=>replace h:=ifK_elim h; obtain ⟨rfl,h⟩:=h; obtain ⟨_,rfl,h⟩:=h; exact fin _ _ rfl h (fun w=>by simp [binOp,Op.intArith])
  case sub=>replace h:=ifK_elim h; obtain ⟨rfl,h⟩:=h; obtain ⟨_,rfl,h⟩:=h; exact fin _ _ rfl h (fun w=>by simp [binOp,Op.intArith])
  case mul=>replace h:=ifK_elim h; obtain ⟨rfl,h⟩:=h; obtain ⟨_,rfl,h⟩:=h; exact fin _ _ rfl h (fun w=>by simp [binOp,Op.intArith])
  case quo=>replace h:=ifK_elim h; obtain ⟨rfl,h⟩:=h; obtain ⟨hb,h⟩:=h; exact fin _ _ rfl h (fun w=>by simp [binOp,Op.intDiv,hb])
  case rem=>replace h:=ifK_elim h; obtain ⟨rfl,h⟩:=h; obtain ⟨hb,h⟩:=h; exact fin _ _ rfl h (fun w=>by simp [binOp,Op.intDiv,hb])
  case eql=>replace h:=ifK_elim h; obtain ⟨rfl,h⟩:=h; exact fin _ _ rfl h (fun w=>by simp [binOp,Op.intCmp])
  case neq=>replace h:=ifK_elim h; obtain ⟨rfl,h⟩:=h; exact fin _ _ rfl h (fun w=>by simp [binOp,Op.intCmp])
  case lss=>replace h:=ifK_elim h; obtain ⟨rfl,h⟩:=h; exact fin _ _ rfl h (fun w=>by simp [binOp,Op.intCmp])
  case leq=>replace h:=ifK_elim h; obtain ⟨rfl,h⟩:=h; exact fin _ _ rfl h (fun w=>by simp [binOp,Op.intCmp])
  case gtr=>replace h:=ifK_elim h; obtain ⟨rfl,h⟩:=h; exact fin _ _ rfl h (fun w=>by simp [binOp,Op.intCmp])
  case geq=>replace h:=ifK_elim h; obtain ⟨rfl,h⟩:=h; exact fin _ _ rfl h (fun w=>by simp [binOp,Op.intCmp])
  case shl=>obtain ⟨hb,h⟩:=h; exact fin _ _ rfl h (fun w=>by simp [binOp,Op.shift,Int.not_lt.2 hb])
  case shr=>obtain ⟨hb,h⟩:=h; exact fin _ _ rfl h (fun w=>by simp [binOp,Op.shift,Int.not_lt.2 hb])
  case and=>replace h:=ifK_elim h; obtain ⟨rfl,h⟩:=h; exact fin _ _ rfl h (fun w=>by simp [binOp,Op.intBits])
  case or=>replace h:=ifK_elim h; obtain ⟨rfl,h⟩:=h; exact fin _ _ rfl h (fun w=>by simp [binOp,Op.intBits])
  case xor=>replace h:=ifK_elim h; obtain ⟨rfl,h⟩:=h; exact fin _ _ rfl h (fun w=>by simp [binOp,Op.intBits])
  case andNot=>replace h:=ifK_elim h; obtain ⟨rfl,h⟩:=h; exact fin _ _ rfl h (fun w=>by simp [binOp,Op.intBits])
 ·rename_i a b
  have fin:∀ av:AV,∀ r:Value,av = .lit r → K av → (∀ w:World,(binOp op t (.string a) (.string b)).run P w = .ok r w) →
    ∃ av,K av ∧ ∀ (I:Nat → Prop) (w:World) (μ:MM) (u v:Value) (ox oy:Operand),RelV I w μ (.lit (.string a)) u → RelV I w μ (.lit (.string b)) v →
     ∃ r,(do eqGuard op t ox oy u v; binOp op t u v:Sem Value).run P w = .ok r w ∧ RelV I w μ av r:=by
   intro av r e hK hr
   refine ⟨av,hK,fun I w μ u v ox oy hu hv=>?_⟩
   obtain rfl:=hu.lit_eq
   obtain rfl:=hv.lit_eq
   refine ⟨r,?_,by subst e; exact .lit _ _⟩
   simp only [Sem.run_bind,eqGuard_string,Result.andThen_ok]
   exact hr w
  cases op <;> dsimp only at h
  case add =>
   obtain ⟨hb,h⟩:=h
   refine fin _ _ rfl h (fun w=>?_)
   have:¬ ((a.size + b.size:Nat):Int) > IntKind.i64.max:=by simp only [show IntKind.i64.max = 9223372036854775807 from rfl]; omega
   simp only [binOp,Op.stringOp]
   rw [if_neg this]
   rfl
  case eql=>exact fin _ _ rfl h (fun w=>by simp [binOp,Op.stringOp])
  case neq=>exact fin _ _ rfl h (fun w=>by simp [binOp,Op.stringOp])
  all_goals exact h.elim
 ·rename_i a b
  have fin:∀ av:AV,∀ r:Value,av = .lit r → K av → (∀ w:World,(binOp op t (.bool a) (.bool b)).run P w = .ok r w) →
    ∃ av,K av ∧ ∀ (I:Nat → Prop) (w:World) (μ:MM) (u v:Value) (ox oy:Operand),RelV I w μ (.lit (.bool a)) u → RelV I w μ (.lit (.bool b)) v →
     ∃ r,(do eqGuard op t ox oy u v; binOp op t u v:Sem Value).run P w = .ok r w ∧ RelV I w μ av r:=by
   intro av r e hK hr
   refine ⟨av,hK,fun I w μ u v ox oy hu hv=>?_⟩
   obtain rfl:=hu.lit_eq
   obtain rfl:=hv.lit_eq
   refine ⟨r,?_,by subst e; exact .lit _ _⟩
   simp only [Sem.run_bind,eqGuard_bool,Result.andThen_ok]
   exact hr w
  cases op <;> dsimp only at h
  case eql=>replace h:=ifK_elim h; obtain ⟨ht,h⟩:=h; exact fin _ _ rfl h (fun w=>run_eql_bool w t a b (isBool_ok ht))
  case neq=>replace h:=ifK_elim h; obtain ⟨ht,h⟩:=h; exact fin _ _ rfl h (fun w=>run_neq_bool w t a b (isBool_ok ht))
  all_goals exact h.elim
 ·exact h.elim
def aun (op:UnOp) (x:AV) (K:AV → Prop):Prop :=
 match op,x with
 | .neg,.lit (.int k a)=>K (.lit (.int k (k.wrap (0 - a))))
 | .not,.lit (.bool b)=>K (.lit (.bool (!b)))
 | _,_=>False
theorem aun_ok [_KN:Know] {P:Program} {op:UnOp} {x:AV} {K:AV → Prop} (h:aun op x K) :
  ∃ av,K av ∧ ∀ (I:Nat → Prop) (w:World) (μ:MM) (u:Value),RelV I w μ x u → ∃ r,(Op.unary op u).run P w = .ok r w ∧ RelV I w μ av r:=by
 unfold aun at h
 split at h
 ·refine ⟨_,h,fun I w μ u hu=>?_⟩
  obtain rfl:=hu.lit_eq
  exact ⟨_,by simp [Op.unary,Op.intArith],.lit _ _⟩
 ·refine ⟨_,h,fun I w μ u hu=>?_⟩
  obtain rfl:=hu.lit_eq
  exact ⟨_,by simp [Op.unary],.lit _ _⟩
 ·exact h.elim
end Go.Q
namespace Go.Q
open Go
def aggQ (P:Program) (t:TypeId):Option Bool :=
 match P.underlying t with
 | some (.struct _) | some (.array _ _)=>some true
 | some _=>some false
 | none=>none
def sizeQ (P:Program) (t:TypeId):Option Nat:=(P.info? t).map (·.size)
theorem run_isAggQ {P:Program} {w:World} {t:TypeId} {b:Bool} (h:aggQ P t = some b):(isAgg t).run P w = .ok b w:=by
 unfold aggQ at h
 unfold isAgg
 simp only [Sem.run_bind]
 cases hu:P.underlying t with
 | none=>rw [hu] at h; cases h
 | some d =>
  rw [hu] at h
  simp only [underlying,Sem.run_bind,run_program,Result.andThen_ok,hu,Sem.run_pure]
  cases d <;> simp_all
theorem run_sizeQ {P:Program} {w:World} {t:TypeId} {n:Nat} (h:sizeQ P t = some n):(sizeOf t).run P w = .ok n w:=by
 unfold sizeQ at h
 cases hi:P.info? t with
 | none=>rw [hi] at h; cases h
 | some i =>
  rw [hi] at h
  simp only [Option.map_some,Option.some.injEq] at h
  simp [sizeOf,typeInfo,hi,h]
theorem run_underQ {P:Program} {w:World} {t:TypeId} {d:TypeDesc} (h:P.underlying t = some d):(underlying t).run P w = .ok d w:=by
 simp [underlying,h]
def acut (P:Program) (t:TypeId) (cs:List AV) (off:Nat):Option AV :=
 match aggQ P t,sizeQ P t with
 | some true,some n=>if off + n ≤ cs.length then some (.agg ((cs.drop off).take n)) else none
 | some false,_=>cs[off]?
 | _,_=>none
def afield (P:Program) (t:TypeId) (cs:List AV) (f:Nat):Option AV :=
 match P.underlying t with
 | some (.struct fs)=>match fs[f]? with
  | some fl=>acut P fl.type cs fl.offset
  | none=>none
 | _=>none
theorem getD_of {xs:Array Value} {i:Nat} (h:i < xs.size):xs.getD i Go.undef = xs[i]:=by simp [Array.getD,h]
theorem acut_ok [_KN:Know] {P:Program} {I:Nat → Prop} {w:World} {μ:MM} {t:TypeId} {cs:List AV} {off:Nat} {av:AV} (h:acut P t cs off = some av) {xs:Array Value}
  (hn:xs.size = cs.length) (hx:∀ i (hi:i < cs.length),RelV I w μ cs[i] (xs.getD i Go.undef)):∃ r,(part t xs off).run P w = .ok r w ∧ RelV I w μ av r:=by
 unfold acut at h
 split at h
 ·rename_i n ha hs
  split at h
  ·rename_i hle
   obtain rfl:=Option.some.inj h
   refine ⟨.agg (xs.extract off (off + n)),?_,?_⟩
   ·simp [part,run_isAggQ ha,run_sizeQ hs]
   ·refine .agg _ _ _ (by simp; omega) (fun i hi=>?_)
    simp only [List.length_take,List.length_drop] at hi
    have h1:off + i < cs.length:=by omega
    have:=hx (off + i) h1
    rw [getD_of (by omega)] at this
    rw [getD_of (by simp; omega)]
    simpa using this
  ·cases h
 ·rename_i ha
  have hlt:off < cs.length:=by
   rcases Nat.lt_or_ge off cs.length with h1 | h1
   ·exact h1
   ·rw [List.getElem?_eq_none h1] at h; cases h
  rw [List.getElem?_eq_getElem hlt] at h
  obtain rfl:=Option.some.inj h
  refine ⟨xs[off]'(by omega),?_,?_⟩
  ·simp only [part,Sem.run_bind,run_isAggQ ha,Result.andThen_ok,Bool.false_eq_true,if_false]
   rw [Array.getElem?_eq_getElem (by omega)]
   rfl
  ·have:=hx off hlt
   rwa [getD_of (by omega)] at this
 ·cases h
theorem RelV.agg_inv {I:Nat → Prop} {w:World} {μ:MM} {cs:List AV} {v:Value} (h:RelV I w μ (.agg cs) v) :
  ∃ xs:Array Value,v = .agg xs ∧ xs.size = cs.length ∧ ∀ i (hi:i < cs.length),RelV I w μ cs[i] (xs.getD i Go.undef):=by
 cases h with
 | agg _ _ xs hn h=>exact ⟨xs,rfl,hn,h⟩
theorem RelV.tup_inv {I:Nat → Prop} {w:World} {μ:MM} {cs:List AV} {v:Value} (h:RelV I w μ (.tup cs) v) :
  ∃ xs:Array Value,v = .tuple xs ∧ xs.size = cs.length ∧ ∀ i (hi:i < cs.length),RelV I w μ cs[i] (xs.getD i Go.undef):=by
 cases h with
 | tup _ _ xs hn h=>exact ⟨xs,rfl,hn,h⟩
theorem afield_ok [KN:Know] {P:Program} {I:Nat → Prop} {w:World} {μ:MM} {t:TypeId} {cs:List AV} {f:Nat} {av:AV} (h:afield P t cs f = some av) {v:Value}
  (hv:RelV I w μ (.agg cs) v):∃ r,(Instr.field t v f).run P w = .ok r w ∧ RelV I w μ av r:=by
 obtain ⟨xs,rfl,hn,hx⟩:=hv.agg_inv
 unfold afield at h
 split at h
 ·rename_i fs hu
  split at h
  ·rename_i fl hf
   obtain ⟨r,hr,hrel⟩:=acut_ok h hn hx
   refine ⟨r,?_,hrel⟩
   simp only [Instr.field,Sem.run_bind,run_underQ hu,Result.andThen_ok,hf,asAgg,Sem.run_pure,hr]
  ·cases h
 ·cases h
def asl (lo hi:Option AV) (n:Nat) (K:Nat → Nat → Prop):Prop :=
 match lo,hi with
 | none,none=>K 0 n
 | some (.lit (.int _ l)),none=>Side (0 ≤ l ∧ l ≤ (n:Int)) (K l.toNat n)
 | none,some (.lit (.int _ h))=>Side (0 ≤ h ∧ h ≤ (n:Int)) (K 0 h.toNat)
 | some (.lit (.int _ l)),some (.lit (.int _ h))=>Side (0 ≤ l ∧ l ≤ h ∧ h ≤ (n:Int)) (K l.toNat h.toNat)
 | _,_=>False
theorem asl_ok [KN:Know] {P:Program} {lo hi:Option Operand} {st:St} {n:Nat} {K:Nat → Nat → Prop} (h:asl (lo.map (aeval st)) (hi.map (aeval st)) n K) :
  ∃ l r,l ≤ r ∧ r ≤ n ∧ K l r ∧ ∀ (I:Nat → Prop) (μ:MM) (a:Act) (w:World),Rel I μ st a w → ∀ (b:Bool) (cap:Nat),n ≤ cap → (Instr.sliceBounds b n cap (lo.map a.eval) (hi.map a.eval) none).run P w = .ok (l,r,cap) w:=by
 unfold asl at h
 split at h
 ·rename_i h1 h2
  obtain rfl:lo = none:=by cases lo <;> simp_all
  obtain rfl:hi = none:=by cases hi <;> simp_all
  exact ⟨0,n,by omega,by omega,h,fun I μ a w R b cap hc=>by simp [Instr.sliceBounds]⟩
 ·rename_i k l h1 h2
  obtain ⟨⟨h0,hl⟩,hK⟩:=h
  obtain rfl:hi = none:=by cases hi <;> simp_all
  cases lo with
  | none=>simp at h1
  | some x =>
   simp only [Option.map_some,Option.some.injEq] at h1
   refine ⟨l.toNat,n,by omega,by omega,hK,fun I μ a w R b cap hc=>?_⟩
   have:=R.eval x; rw [h1] at this
   simp [Instr.sliceBounds,this.lit_eq,run_sliceBound w k l n .sliceB h0 hl]
 ·rename_i k r h1 h2
  obtain ⟨⟨h0,hl⟩,hK⟩:=h
  obtain rfl:lo = none:=by cases lo <;> simp_all
  cases hi with
  | none=>simp at h2
  | some x =>
   simp only [Option.map_some,Option.some.injEq] at h2
   refine ⟨0,r.toNat,by omega,by omega,hK,fun I μ a w R b cap hc=>?_⟩
   have:=R.eval x; rw [h2] at this
   simp [Instr.sliceBounds,this.lit_eq,run_sliceBound w k r cap _ h0 (by omega:r ≤ cap)]
 ·rename_i k l k' r h1 h2
  obtain ⟨⟨h0,hlr,hl⟩,hK⟩:=h
  cases lo with
  | none=>simp at h1
  | some x =>
   cases hi with
   | none=>simp at h2
   | some y =>
    simp only [Option.map_some,Option.some.injEq] at h1 h2
    refine ⟨l.toNat,r.toNat,by omega,by omega,hK,fun I μ a w R b cap hc=>?_⟩
    have e1:=R.eval x; rw [h1] at e1
    have e2:=R.eval y; rw [h2] at e2
    have hr0:(r.toNat:Int) = r:=Int.toNat_of_nonneg (by omega)
    simp [Instr.sliceBounds,e1.lit_eq,e2.lit_eq,run_sliceBound w k' r cap _ (by omega:0 ≤ r) (by omega:r ≤ cap),run_sliceBound w k l r.toNat _ h0 (by omega:l ≤ (r.toNat:Int))]
 ·exact h.elim
theorem RelV.vs_inv {I:Nat → Prop} {w:World} {μ:MM} {s:Nat} {es:List AV} {v:Value} (h:RelV I w μ (.vs s es) v) :
  ∃ (a:Option Addr) (cap:Nat) (val:Nat → Nat → Value),v = .slice a es.length cap ∧ es.length ≤ cap ∧
   (0 < es.length → ∃ b off,a = some ⟨b,off,none⟩ ∧ I b ∧ ∀ i j,i < es.length → j < s → w.cell? ⟨b,off + i * s + j,none⟩ = some (val i j)) ∧
   (∀ i (hi:i < es.length),(es[i]).cells.length = s) ∧
   (∀ i (hi:i < es.length) j (hj:j < (es[i]).cells.length),RelV I w [] ((es[i]).cells[j]) (val i j)):=by
 cases h with
 | vs _ _ _ a cap val hcap ha hn hv=>exact ⟨a,cap,val,rfl,hcap,ha,hn,hv⟩
theorem RelV.vs_cut [_KN:Know] {I:Nat → Prop} {w:World} {μ:MM} {s:Nat} {es:List AV} {a:Option Addr} {cap:Nat} (h:RelV I w μ (.vs s es) (.slice a es.length cap)) {l r:Nat} (hlr:l ≤ r) (hr:r ≤ es.length) :
  RelV I w μ (.vs s ((es.drop l).take (r - l))) (sliced a l r cap s):=by
 obtain ⟨a',cap',val,e,hcap,ha,hn,hv⟩:=h.vs_inv
 cases e
 have hlen:((es.drop l).take (r - l)).length = r - l:=by simp; omega
 unfold sliced
 suffices key:RelV I w μ (.vs s ((es.drop l).take (r - l))) (.slice (if cap = l then a else a.map (·.add (l * s))) ((es.drop l).take (r - l)).length (cap - l)) by
  rwa [hlen] at key
 refine .vs μ s _ _ (cap - l) (fun i j=>val (l + i) j) (by rw [hlen]; omega) (fun h0=>?_) (fun i hi=>?_) (fun i hi j hj=>?_)
 ·rw [hlen] at h0
  obtain ⟨b,off,rfl,hb,hc⟩:=ha (by omega)
  refine ⟨b,off + l * s,?_,hb,fun i j hi hj=>?_⟩
  ·rw [if_neg (by omega)]
   simp only [Option.map_some,Addr.add]
   split
   ·rename_i h0; rw [h0]; rfl
   ·rfl
  ·rw [hlen] at hi
   rw [← hc (l + i) j (by omega) hj,Nat.add_mul,Nat.add_assoc off]
 ·have hi':l + i < es.length:=by rw [hlen] at hi; omega
  have:=hn (l + i) hi'
  simpa using this
 ·have hi':l + i < es.length:=by rw [hlen] at hi; omega
  have e:((es.drop l).take (r - l))[i] = es[l + i]:=by simp
  have hj':j < (es[l + i]).cells.length:=by rw [← e]; exact hj
  have:=hv (l + i) hi' j hj'
  simpa [e] using this
theorem RelV.vs_at [_KN:Know] {I:Nat → Prop} {w:World} {μ:MM} {s:Nat} {es:List AV} {a:Option Addr} {cap:Nat} (h:RelV I w μ (.vs s es) (.slice a es.length cap)) {i:Nat} {e:AV} (he:es[i]? = some e) :
  ∃ b off,a = some ⟨b,off,none⟩ ∧ i < es.length ∧ RelV I w μ (.iptr e) (.pointer (some ((⟨b,off,none⟩:Addr).add (i * s)))):=by
 obtain ⟨a',cap',val,e',hcap,ha,hn,hv⟩:=h.vs_inv
 cases e'
 have hi:i < es.length:=by
  rcases Nat.lt_or_ge i es.length with h1 | h1
  ·exact h1
  ·rw [List.getElem?_eq_none h1] at he; cases he
 rw [List.getElem?_eq_getElem hi] at he
 obtain rfl:=Option.some.inj he
 obtain ⟨b,off,rfl,hb,hc⟩:=ha (by omega)
 refine ⟨b,off,rfl,hi,?_⟩
 have:(⟨b,off,none⟩:Addr).add (i * s) = ⟨b,off + i * s,none⟩:=by
  unfold Addr.add
  split
  ·rename_i h0; rw [h0]; rfl
  ·rfl
 rw [this]
 exact .iptr μ _ b _ (val i) hb (fun j hj=>hc i j hi (by rw [hn i hi] at hj; exact hj)) (fun j hj=>hv i hi j hj)
theorem RelV.iptr_inv {I:Nat → Prop} {w:World} {μ:MM} {c:AV} {v:Value} (h:RelV I w μ (.iptr c) v) :
  ∃ (b off:Nat) (val:Nat → Value),v = .pointer (some ⟨b,off,none⟩) ∧ I b ∧ (∀ j,j < c.cells.length → w.cell? ⟨b,off + j,none⟩ = some (val j)) ∧
   ∀ j (hj:j < c.cells.length),RelV I w [] (c.cells[j]) (val j):=by
 cases h with
 | iptr _ _ b off val hI hc hv=>exact ⟨b,off,val,rfl,hI,hc,hv⟩
def AV.isAgg:AV → Bool
 | .agg _=>true
 | _=>false
def loadable (P:Program) (t:TypeId) (c:AV):Prop :=
 match aggQ P t with
 | some true=>c.isAgg = true ∧ sizeQ P t = some c.cells.length
 | some false=>c.isAgg = false
 | none=>False
theorem loadCells_ok {P:Program} {w:World} {b off:Nat} {val:Nat → Value} (n:Nat) (hc:∀ j,j < n → w.cell? ⟨b,off + j,none⟩ = some (val j)) :
  (loadCells ⟨b,off,none⟩ n).run P w = .ok ((List.range n).map val).toArray w:=by
 have key:∀ m i (acc:Array Value),i + m = n → (loadCellsFrom ⟨b,off,none⟩ i m acc).run P w = .ok (acc ++ ((List.range m).map fun k=>val (i + k)).toArray) w:=by
  intro m
  induction m with
  | zero=>intro i acc _; simp [loadCellsFrom]
  | succ m ih =>
   intro i acc hi
   have hcell:w.cell? ((⟨b,off,none⟩:Addr).add i) = some (val i):=by
    rw [← hc i (by omega)]
    unfold Addr.add
    split
    ·rename_i h0; subst h0; rfl
    ·rfl
   simp only [loadCellsFrom,Sem.run_bind,run_load,hcell,Result.andThen_ok]
   rw [ih (i + 1) _ (by omega)]
   congr 1
   apply Array.ext'
   simp [List.range_succ_eq_map,Function.comp_def,Nat.add_assoc,Nat.add_comm 1]
 have:=key n 0 #[] (by omega)
 simpa [loadCells] using this
end Go.Q
namespace Go.Q
open Go
theorem get_append_self {α:Type} (l:List α) (x:α):(l ++ [x])[l.length]? = some x:=by simp
theorem RelO.keep [KN:Know] {I I':Nat → Prop} {w w':World} {μ μ':MM} {h:List AObj} (_H:RelH I μ h w) (hI:∀ b,I b → I' b) (hw:∀ b,I b → w'.heap[b]? = w.heap[b]?) (hs:μ.Sub μ')
  {ob:AObj} {x:Slot} (hl:∀ l,x = .at l → w'.heap[l.block]? = w.heap[l.block]?) (h:RelO I w μ ob x):RelO I' w' μ' ob x :=
 h.mono hI hw (fun _ _ r=>r.sub hs) hl
theorem RelH.alloc [KN:Know] {I:Nat → Prop} {μ:MM} {h:List AObj} {w:World} (H:RelH I μ h w) {o:Obj} {ob:AObj} {l:Loc} (hl:l.block = w.heap.size)
  (ho:RelO I (w.alloc o) (μ ++ [.at l]) ob (.at l)):RelH I (μ ++ [.at l]) (h ++ [ob]) (w.alloc o):=by
 have hold:∀ b,b < w.heap.size → (w.alloc o).heap[b]? = w.heap[b]?:=fun b hb=>by
  simp only [World.alloc]; rw [Array.getElem?_push_lt hb,Array.getElem?_eq_getElem hb]
 have hloc:∀ k l',MM.loc (μ ++ [.at l]) k = some l' → (MM.loc μ k = some l' ∧ k < μ.length) ∨ (k = μ.length ∧ l' = l):=by
  intro k l' e
  rw [MM.loc_some] at e
  rcases Nat.lt_trichotomy k μ.length with h1 | h1 | h1
  ·rw [List.getElem?_append_left h1] at e; exact .inl ⟨MM.loc_some.2 e,h1⟩
  ·subst h1; rw [get_append_self] at e; cases e; exact .inr ⟨rfl,rfl⟩
  ·rw [List.getElem?_eq_none (by simp; omega)] at e; cases e
 refine ⟨by simp [H.len],fun k ob' x hk hx=>?_,fun b hb=>?_,fun k k' l1 l2 e1 e2 e=>?_,fun b hb=>?_,H.know.step (fun _ h=>h) (fun b hb=>hold b (H.imm b hb))⟩
 ·rcases Nat.lt_trichotomy k h.length with h1 | h1 | h1
  ·rw [List.getElem?_append_left h1] at hk
   rw [List.getElem?_append_left (by rw [H.len]; exact h1)] at hx
   refine (H.objs k ob' x hk hx).keep H (fun _ h=>h) (fun b hb=>hold b (H.imm b hb)) (MM.sub_append _ _) (fun l' e=>?_)
   subst e
   exact hold _ (H.size_owned ⟨k,l',MM.loc_some.2 hx,rfl⟩)
  ·subst h1
   rw [get_append_self] at hk
   rw [← H.len,get_append_self] at hx
   cases hk; cases hx
   exact ho
  ·rw [List.getElem?_eq_none (by simp; omega)] at hk; cases hk
 ·obtain ⟨k,l',e,rfl⟩:=hb
  rcases hloc k l' e with ⟨h1,_⟩ | ⟨_,rfl⟩
  ·exact H.notI _ ⟨k,l',h1,rfl⟩
  ·intro hI; have:=H.imm _ hI; omega
 ·rcases hloc k l1 e1 with ⟨h1,hk⟩ | ⟨rfl,rfl⟩ <;> rcases hloc k' l2 e2 with ⟨h2,hk'⟩ | ⟨rfl,rfl⟩
  ·exact H.apart _ _ _ _ h1 h2 e
  ·have:=H.size_owned ⟨k,l1,h1,rfl⟩; omega
  ·have:=H.size_owned ⟨k',l2,h2,rfl⟩; omega
  ·rfl
 ·have:=H.imm b hb; simp; omega
theorem Step.alloc [_KN:Know] {I:Nat → Prop} {μ:MM} {w:World} {o:Obj} {l:Loc} (hl:l.block = w.heap.size):Step I μ w I (μ ++ [.at l]) (w.alloc o):=by
 refine ⟨fun _ h=>h,by simp,fun b hb _=>?_,fun b hb=>?_,fun _ h=>.inl h,rfl,rfl⟩
 ·simp only [World.alloc]; rw [Array.getElem?_push_lt hb,Array.getElem?_eq_getElem hb]
 ·obtain ⟨k,l',e,rfl⟩:=hb
  rw [MM.loc_some] at e
  rcases Nat.lt_trichotomy k μ.length with h1 | h1 | h1
  ·rw [List.getElem?_append_left h1] at e; exact .inl ⟨k,l',MM.loc_some.2 e,rfl⟩
  ·subst h1; rw [get_append_self] at e; cases e; right; omega
  ·rw [List.getElem?_eq_none (by simp; omega)] at e; cases e
theorem Pre.append {n:Nat} {μ:MM} (x:MM) (h:n ≤ μ.length):Pre n μ (μ ++ x) :=
 ⟨by rw [List.length_append]; omega,fun o ho=>.inl (List.getElem?_append_left (by omega))⟩
theorem Pre.gone {n:Nat} {μ:MM} (k:Nat) (h:n ≤ μ.length):Pre n μ (μ.set k .gone):=by
 refine ⟨by simpa using h,fun o ho=>?_⟩
 by_cases e:k = o
 ·subst e; exact .inr (List.getElem?_set_self (Nat.lt_of_lt_of_le ho h))
 ·exact .inl (List.getElem?_set_ne e)
theorem Rel.alloc [KN:Know] {I:Nat → Prop} {μ:MM} {st:St} {a:Act} {w:World} (R:Rel I μ st a w) {o:Obj} {ob:AObj} {l:Loc} (hl:l.block = w.heap.size)
  (ho:RelO I (w.alloc o) (μ ++ [.at l]) ob (.at l)):Rel I (μ ++ [.at l]) { st with h:=st.h ++ [ob] } a (w.alloc o):=by
 refine ⟨fun d=>?_,R.size,R.defers,R.heap.alloc hl ho⟩
 refine ((R.tmps d).sub (MM.sub_append _ _)).mono (fun _ h=>h) (fun b hb=>?_)
 have hb:=R.heap.imm b hb
 simp only [World.alloc]; rw [Array.getElem?_push_lt hb,Array.getElem?_eq_getElem hb]
theorem Rel.update [KN:Know] {I:Nat → Prop} {μ:MM} {st:St} {a:Act} {w w':World} (R:Rel I μ st a w) {k:Nat} {l:Loc} (hk:μ.loc k = some l) {ob:AObj}
  (hsz:w'.heap.size = w.heap.size) (hw:∀ b,b ≠ l.block → w'.heap[b]? = w.heap[b]?) (ho:RelO I w' μ ob (.at l)):Rel I μ { st with h:=st.h.set k ob } a w':=by
 have hI:∀ b,I b → w'.heap[b]? = w.heap[b]?:=fun b hb=>hw b (fun e=>R.heap.notI b ⟨k,l,hk,e.symm⟩ hb)
 refine ⟨fun d=>(R.tmps d).mono (fun _ h=>h) hI,R.size,R.defers,⟨by simp [R.heap.len],fun j ob' x hj hx=>?_,R.heap.notI,R.heap.apart,fun b hb=>by rw [hsz]; exact R.heap.imm b hb,R.heap.know.step (fun _ h=>h) hI⟩⟩
 by_cases e:k = j
 ·subst e
  rw [MM.loc_some] at hk
  rw [hk] at hx; cases hx
  have hlt:k < st.h.length:=by
   rcases Nat.lt_or_ge k st.h.length with h1 | h1
   ·exact h1
   ·rw [List.getElem?_eq_none (by simpa using h1)] at hj; cases hj
  rw [List.getElem?_set_self hlt] at hj
  cases hj
  exact ho
 ·rw [List.getElem?_set_ne e] at hj
  refine (R.heap.objs j ob' x hj hx).keep R.heap (fun _ h=>h) hI (MM.sub_refl _) (fun l' e'=>?_)
  subst e'
  exact hw _ (fun e'=>e (R.heap.apart _ _ _ _ hk (MM.loc_some.2 hx) e'.symm))
theorem Step.update {I:Nat → Prop} {μ:MM} {w w':World} {k:Nat} {l:Loc} (hk:μ.loc k = some l)
  (hsz:w'.heap.size = w.heap.size) (hw:∀ b,b ≠ l.block → w'.heap[b]? = w.heap[b]?) (hx:w'.os = w.os ∧ w'.output = w.output):Step I μ w I μ w' :=
 ⟨fun _ h=>h,by omega,fun b _ hn=>hw b (fun e=>hn ⟨k,l,hk,e.symm⟩),fun _ h=>.inl h,fun _ h=>.inl h,hx⟩
theorem RelH.kill [KN:Know] {I:Nat → Prop} {μ:MM} {h:List AObj} {w:World} (H:RelH I μ h w) (k:Nat):RelH I (μ.set k .gone) (h.set k .dead) w:=by
 have hloc:∀ j l,MM.loc (μ.set k .gone) j = some l → MM.loc μ j = some l:=by
  intro j l e
  rw [MM.loc_some] at e ⊢
  by_cases e':k = j
  ·subst e'
   rcases Nat.lt_or_ge k μ.length with h1 | h1
   ·rw [List.getElem?_set_self h1] at e; cases e
   ·rw [List.getElem?_eq_none (by simpa using h1)] at e; cases e
  ·rwa [List.getElem?_set_ne e'] at e
 refine ⟨by simp [H.len],fun j ob' x hj hx=>?_,fun b hb=>?_,fun j j' l l' e1 e2 e=>H.apart _ _ _ _ (hloc _ _ e1) (hloc _ _ e2) e,H.imm,H.know⟩
 ·by_cases e:k = j
  ·subst e
   have hlt:k < h.length:=by
    rcases Nat.lt_or_ge k h.length with h1 | h1
    ·exact h1
    ·rw [List.getElem?_eq_none (by simpa using h1)] at hj; cases hj
   rw [List.getElem?_set_self hlt] at hj
   rw [List.getElem?_set_self (by rw [H.len]; exact hlt)] at hx
   cases hj; cases hx; exact .dead
  ·rw [List.getElem?_set_ne e] at hj hx
   exact (H.objs j ob' x hj hx).keep H (fun _ h=>h) (fun _ _=>rfl) (MM.sub_set _ _) (fun _ _=>rfl)
 ·obtain ⟨j,l,e,rfl⟩:=hb
  exact H.notI _ ⟨j,l,hloc _ _ e,rfl⟩
theorem owns_set {μ:MM} {k:Nat} {b:Nat} (h:MM.owns (μ.set k .gone) b):μ.owns b:=by
 obtain ⟨j,l,e,rfl⟩:=h
 refine ⟨j,l,?_,rfl⟩
 rw [MM.loc_some] at e ⊢
 by_cases e':k = j
 ·subst e'
  rcases Nat.lt_or_ge k μ.length with h1 | h1
  ·rw [List.getElem?_set_self h1] at e; cases e
  ·rw [List.getElem?_eq_none (by simpa using h1)] at e; cases e
 ·rwa [List.getElem?_set_ne e'] at e
theorem Rel.kill [KN:Know] {I:Nat → Prop} {μ:MM} {st:St} {a:Act} {w:World} (R:Rel I μ st a w) (k:Nat):Rel I (μ.set k .gone) { st with h:=st.h.set k .dead } a w :=
 ⟨fun d=>(R.tmps d).sub (MM.sub_set _ _),R.size,R.defers,R.heap.kill k⟩
theorem Step.kill [_KN:Know] {I:Nat → Prop} {μ:MM} {w:World} (k:Nat):Step I μ w I (μ.set k .gone) w :=
 ⟨fun _ h=>h,Nat.le_refl _,fun _ _ _=>rfl,fun _ h=>.inl (owns_set h),fun _ h=>.inl h,rfl,rfl⟩
end Go.Q
namespace Go.Q
open Go
theorem addr_add (b off n:Nat):(⟨b,off,none⟩:Addr).add n = ⟨b,off + n,none⟩:=by
 unfold Addr.add
 split
 ·rename_i h; subst h; rfl
 ·rfl
theorem store1_ok {P:Program} {w:World} {l:Loc} (hb:BlockOK w l) {off:Nat} (ho:off < l.size) {v:Value} (hv:v.oneCell' = true) :
  ∃ w',(store ⟨l.block,off,none⟩ v).run P w = .ok () w' ∧ (w'.heap.size = w.heap.size ∧ w'.os = w.os ∧ w'.output = w.output) ∧ (∀ b,b ≠ l.block → w'.heap[b]? = w.heap[b]?) ∧ BlockOK w' l ∧
   ∀ k,w'.cell? ⟨l.block,k,none⟩ = if k = off then some v else w.cell? ⟨l.block,k,none⟩:=by
 obtain ⟨cells,T,lo,hi,e,hs,hf⟩:=hb
 have hlt:l.block < w.heap.size:=by
  rcases Nat.lt_or_ge l.block w.heap.size with h1 | h1
  ·exact h1
  ·rw [Array.getElem?_eq_none h1] at e; cases e
 have hcell:w.cell? ⟨l.block,off,none⟩ = some (cells[off]'(by omega)):=by
  simp [World.cell?,e,Array.getElem?_eq_getElem (show off < cells.size by omega)]
 have hfr:w.frozen? ⟨l.block,off,none⟩ = false:=by
  simp only [World.frozen?,e]
  have:=hf off ho
  simp only [Bool.and_eq_false_iff,decide_eq_false_iff_not]
  omega
 have hnew:(w.setCell ⟨l.block,off,none⟩ v).heap[l.block]? = some (.cells (cells.setIfInBounds off v) T (lo,hi)):=by
  simp only [World.setCell]
  rw [Array.getElem?_modify,if_pos rfl,e]
  rfl
 refine ⟨w.setCell ⟨l.block,off,none⟩ v,?_,⟨by simp,rfl,rfl⟩,fun b hne=>?_,⟨_,T,lo,hi,hnew,by simpa using hs,hf⟩,fun k=>?_⟩
 ·rw [run_store _ _ _ _ _ hv,hcell]
  simp [hfr]
 ·simp only [World.setCell]
  rw [Array.getElem?_modify,if_neg (fun h=>hne h.symm)]
 ·simp only [World.cell?,hnew,e]
  simp only [Option.isSome_none,Bool.false_eq_true,if_false]
  by_cases hk:k = off
  ·subst hk
   rw [if_pos rfl,Array.getElem?_setIfInBounds_self_of_lt (by omega)]
  ·rw [if_neg hk,Array.getElem?_setIfInBounds_ne (fun h=>hk h.symm)]
theorem storeCells_ok [_KN:Know] {P:Program} {l:Loc}:∀ (vs:List Value) (base i:Nat) (w:World),BlockOK w l → base + i + vs.length ≤ l.size → (∀ v ∈ vs,v.oneCell' = true) →
  ∃ w',(storeCells ⟨l.block,base,none⟩ vs i).run P w = .ok () w' ∧ (w'.heap.size = w.heap.size ∧ w'.os = w.os ∧ w'.output = w.output) ∧ (∀ b,b ≠ l.block → w'.heap[b]? = w.heap[b]?) ∧ BlockOK w' l ∧
   ∀ k,w'.cell? ⟨l.block,k,none⟩ = if base + i ≤ k ∧ k < base + i + vs.length then vs[k - (base + i)]? else w.cell? ⟨l.block,k,none⟩:=by
 intro vs
 induction vs with
 | nil =>
  intro base i w hb _ _
  refine ⟨w,by simp [storeCells],⟨rfl,rfl,rfl⟩,fun _ _=>rfl,hb,fun k=>?_⟩
  rw [if_neg (by simp only [List.length_nil]; omega)]
 | cons v vs ih =>
  intro base i w hb hsz hv
  simp only [List.length_cons] at hsz
  obtain ⟨w1,hr1,hs1,ho1,hb1,hc1⟩:=store1_ok (P:=P) hb (off:=base + i) (by omega) (hv v (by simp))
  obtain ⟨w2,hr2,hs2,ho2,hb2,hc2⟩:=ih base (i + 1) w1 hb1 (by omega) (fun x hx=>hv x (by simp [hx]))
  refine ⟨w2,?_,⟨hs2.1.trans hs1.1,hs2.2.1.trans hs1.2.1,hs2.2.2.trans hs1.2.2⟩,fun b hne=>by rw [ho2 b hne,ho1 b hne],hb2,fun k=>?_⟩
  ·simp only [storeCells,Sem.run_bind,addr_add,hr1,Result.andThen_ok,hr2]
  ·rw [hc2 k,hc1 k]
   simp only [List.length_cons]
   by_cases h1:k = base + i
   ·subst h1
    rw [if_neg (by omega),if_pos rfl,if_pos (by omega)]
    simp
   ·by_cases h2:base + (i + 1) ≤ k ∧ k < base + (i + 1) + vs.length
    ·rw [if_pos h2,if_pos (by omega)]
     rw [show k - (base + i) = (k - (base + (i + 1))) + 1 by omega]
     simp
    ·rw [if_neg h2,if_neg h1,if_neg (by omega)]
def oneQ (h:List AObj):AV → Bool
 | .lit v=>v.oneCell'
 | .nils | .vs _ _ | .iptr _ | .fn _ _ _=>true
 | .ref o _ _=>match h[o]? with | some (.arr _ _)=>true | _=>false
 | .ptr o _=>match h[o]? with | some (.box _)=>true | _=>false
 | .eptr o _ _=>match h[o]? with | some (.arr _ _)=>true | _=>false
 | _=>false
def cellsQ (h:List AObj):AV → Bool
 | .agg cs=>cs.all (oneQ h)
 | v=>oneQ h v
theorem RelO.not_gone {I:Nat → Prop} {w:World} {μ:MM} {ob:AObj} (h:RelO I w μ ob .gone):ob = .dead:=by
 generalize e:Slot.gone = x at h
 cases h with
 | dead=>rfl
 | arr0=>cases e
 | arr=>cases e
 | box=>cases e
theorem Rel.slot [KN:Know] {I:Nat → Prop} {μ:MM} {h:List AObj} {w:World} (H:RelH I μ h w) {o:Nat} {ob:AObj} (ho:h[o]? = some ob):∃ x,μ[o]? = some x ∧ RelO I w μ ob x:=by
 have hlt:o < h.length:=by
  rcases Nat.lt_or_ge o h.length with h1 | h1
  ·exact h1
  ·rw [List.getElem?_eq_none h1] at ho; cases ho
 have:=List.getElem?_eq_getElem (l:=μ) (i:=o) (by rw [H.len]; exact hlt)
 exact ⟨_,this,H.objs o ob _ ho this⟩
theorem oneQ_ok [KN:Know] {I:Nat → Prop} {μ:MM} {h:List AObj} {w:World} (H:RelH I μ h w) {c:AV} (hc:oneQ h c = true) {v:Value} (hv:RelV I w μ c v):v.oneCell' = true:=by
 cases hv with
 | undef=>cases hc
 | lit=>exact hc
 | nils=>rfl
 | agg=>cases hc
 | tup=>cases hc
 | vs=>rfl
 | ref=>rfl
 | ref0=>rfl
 | refE=>rfl
 | refX _ o off len v hl =>
  simp only [oneQ] at hc
  split at hc
  ·rename_i heq
   obtain ⟨x,hx,ho⟩:=Rel.slot H heq
   rw [hl] at hx; cases hx
   have:=ho.not_gone; cases this
  ·cases hc
 | ptrX _ o j v hl =>
  simp only [oneQ] at hc
  split at hc
  ·rename_i heq
   obtain ⟨x,hx,ho⟩:=Rel.slot H heq
   rw [hl] at hx; cases hx
   have:=ho.not_gone; cases this
  ·cases hc
 | eptrX _ o i j v hl =>
  simp only [oneQ] at hc
  split at hc
  ·rename_i heq
   obtain ⟨x,hx,ho⟩:=Rel.slot H heq
   rw [hl] at hx; cases hx
   have:=ho.not_gone; cases this
  ·cases hc
 | ptr=>rfl
 | eptr=>rfl
 | iptr=>rfl
 | fn=>rfl
theorem cells_of_one {v:Value} (h:v.oneCell' = true):v.cells = #[v]:=by
 cases v <;> first | rfl | cases h
theorem cellsQ_ok [KN:Know] {I:Nat → Prop} {μ:MM} {h:List AObj} {w:World} (H:RelH I μ h w) {c:AV} (hc:cellsQ h c = true) {v:Value} (hv:RelV I w μ c v) :
  v.cells.size = c.cells.length ∧ (∀ x ∈ v.cells.toList,x.oneCell' = true) ∧ ∀ j (hj:j < c.cells.length),RelV I w μ (c.cells[j]) (v.cells.getD j Go.undef):=by
 have one:oneQ h c = true → c.cells = [c] → v.cells.size = c.cells.length ∧ (∀ x ∈ v.cells.toList,x.oneCell' = true) ∧ ∀ j (hj:j < c.cells.length),RelV I w μ (c.cells[j]) (v.cells.getD j Go.undef):=by
  intro h1 h2
  have h3:=oneQ_ok H h1 hv
  have h4:=cells_of_one h3
  refine ⟨by simp [h2,h4],by simp [h4,h3],fun j hj=>?_⟩
  have:j = 0:=by simp [h2] at hj; exact hj
  subst this
  simpa [h2,h4] using hv
 cases c with
 | agg cs =>
  obtain ⟨xs,rfl,hn,hx⟩:=hv.agg_inv
  simp only [cellsQ,List.all_eq_true] at hc
  refine ⟨hn,fun x hx'=>?_,hx⟩
  obtain ⟨i,hi,rfl⟩:=List.getElem_of_mem hx'
  have hi':i < xs.size:=by simpa [Value.cells] using hi
  have h1:=hx i (by omega)
  rw [getD_of hi'] at h1
  have:=oneQ_ok H (hc _ (List.getElem_mem (show i < cs.length by omega))) h1
  simpa [Value.cells] using this
 | _=>exact one hc rfl
def pureQ:AV → Bool
 | .agg cs=>cs.all pureQ1
 | v=>pureQ1 v
where
 pureQ0:AV → Bool
  | .lit _ | .nils | .vs _ _ | .iptr _=>true
  | _=>false
 pureQ1:AV → Bool
  | .lit _ | .nils | .vs _ _ | .iptr _=>true
  | .fn _ a b=>a.isEmpty && b.all pureQ0
  | _=>false
theorem pureQ0_ok {I:Nat → Prop} {w:World} {μ:MM} {c:AV} {v:Value} (hc:pureQ.pureQ0 c = true) (h:RelV I w μ c v) (ν:MM):RelV I w ν c v:=by
 cases h with
 | lit=>exact .lit _ _
 | nils=>exact .nils _
 | vs _ s es a cap val hcap ha hn hv=>exact .vs _ s es a cap val hcap ha hn hv
 | iptr _ c b off val hb hcc hv=>exact .iptr _ c b off val hb hcc hv
 | _=>cases hc
theorem pureQ1_ok [_KN:Know] {I:Nat → Prop} {w:World} {μ:MM} {c:AV} {v:Value} (hc:pureQ.pureQ1 c = true) (h:RelV I w μ c v) (ν:MM):RelV I w ν c v:=by
 cases h with
 | lit=>exact .lit _ _
 | nils=>exact .nils _
 | vs _ s es a cap val hcap ha hn hv=>exact .vs _ s es a cap val hcap ha hn hv
 | iptr _ c b off val hb hcc hv=>exact .iptr _ c b off val hb hcc hv
 | fn _ f first captured fs cs hf hc' h1 h2 =>
  simp only [pureQ.pureQ1,Bool.and_eq_true,List.isEmpty_iff,List.all_eq_true] at hc
  obtain ⟨rfl,hc⟩:=hc
  exact .fn _ f _ _ fs cs hf hc' (fun i hi=>by simp at hi) (fun i hi=>pureQ0_ok (hc _ (List.getElem_mem hi)) (h2 i hi) ν)
 | _=>cases hc
theorem pureQ_ok [KN:Know] {I:Nat → Prop} {w:World} {μ:MM} {c:AV} {v:Value} (hc:pureQ c = true) (h:RelV I w μ c v) (ν:MM):RelV I w ν c v:=by
 cases c with
 | agg cs =>
  obtain ⟨xs,rfl,hn,hx⟩:=h.agg_inv
  simp only [pureQ,List.all_eq_true] at hc
  exact .agg _ cs xs hn (fun i hi=>pureQ1_ok (hc _ (List.getElem_mem hi)) (hx i hi) ν)
 | _=>exact pureQ1_ok (by simpa only [pureQ] using hc) h ν
theorem alloc_heap (w:World) (o:Obj):(w.alloc o).heap = w.heap.push o:=rfl
theorem SOp.newBox [KN:Know] {P:Program} {n:Nat} {o:Oper} {N:St → Prop} {st:St} {cs:List AV}
  (h:∀ I μ a w,Rel I μ st a w → ∃ (cells:Array Value) (T:TypeId),(execOp a.eval o).run P w = .ok (.value (.pointer (some ⟨w.heap.size,0,none⟩))) (w.alloc (.cells cells T)) ∧
   cells.size = cs.length ∧ ∀ j (hj:j < cs.length),RelV I w μ cs[j] (cells.getD j Go.undef))
  (hN:N (({ st with h:=st.h ++ [.box cs] }:St).put o.dst (.ptr st.h.length 0))):SOp P n o N st:=by
 intro I μ a w R hn next Q hk
 obtain ⟨cells,T,hr,hsz,hv⟩:=h I μ a w R
 unfold Oper.wp
 rw [hr]
 have hnew:∀ j,(w.alloc (.cells cells T)).cell? ⟨w.heap.size,j,none⟩ = cells[j]?:=fun j=>by simp [World.cell?,alloc_heap]
 have hkeep:∀ b,I b → (w.alloc (.cells cells T)).heap[b]? = w.heap[b]?:=fun b hb=>by
  have hb:=R.heap.imm b hb
  simp only [World.alloc]; rw [Array.getElem?_push_lt hb,Array.getElem?_eq_getElem hb]
 have R':=R.alloc (o:=.cells cells T) (ob:=.box cs) (l:=⟨w.heap.size,0,0,cells.size⟩) rfl (.box cs _ (fun j=>cells.getD j Go.undef)
  ⟨cells,T,0,0,by simp [alloc_heap],rfl,by omega⟩ (by simp [hsz])
  (fun j hj=>by simp only [Nat.zero_add]; rw [hnew,getD_of (by omega),Array.getElem?_eq_getElem (by omega)])
  (fun j hj=>((hv j hj).sub (MM.sub_append _ _)).mono (fun _ h=>h) hkeep))
 refine hk _ _ _ _ _ hN (R'.put (.ptr _ _ 0 ⟨w.heap.size,0,0,cells.size⟩ ?_) o.dst) (Step.alloc rfl) (Pre.append _ hn)
 rw [MM.loc_some,← R.heap.len,get_append_self]
theorem SOp.newArr [KN:Know] {P:Program} {n:Nat} {o:Oper} {N:St → Prop} {st:St} {s:Nat} {es:List AV}
  (h:∀ I μ a w,Rel I μ st a w → ∃ (w':World) (T:TypeId) (cells:Array Value) (lo hi:Nat) (cap:Nat) (val:Nat → Nat → Value),
   (execOp a.eval o).run P w = .ok (.value (.slice (some ⟨w.heap.size,0,none⟩) es.length cap)) w' ∧ (w'.heap = w.heap.push (.cells cells T (lo,hi)) ∧ w'.os = w.os ∧ w'.output = w.output) ∧
   (∀ k,k < cells.size → ¬ (lo ≤ k ∧ k < hi)) ∧ es.length ≤ cap ∧ cap * s ≤ cells.size ∧ (∀ i (hi:i < es.length),(es[i]).cells.length = s) ∧
   (∀ i j,i < es.length → j < s → cells[i * s + j]? = some (val i j)) ∧ ∀ i (hi:i < es.length) j (hj:j < (es[i]).cells.length),RelV I w [] ((es[i]).cells[j]) (val i j))
  (hN:N (({ st with h:=st.h ++ [.arr s es] }:St).put o.dst (.ref st.h.length 0 es.length))):SOp P n o N st:=by
 intro I μ a w R hn next Q hk
 obtain ⟨w',T,cells,lo,hi,cap,val,hr,⟨hw',hx1⟩,hf,hcap,hsz,hes,hc,hv⟩:=h I μ a w R
 unfold Oper.wp
 rw [hr]
 have hnew:∀ j,w'.cell? ⟨w.heap.size,j,none⟩ = cells[j]?:=fun j=>by simp [World.cell?,hw']
 have hold:∀ b,b < w.heap.size → w'.heap[b]? = w.heap[b]?:=fun b hb=>by rw [hw',Array.getElem?_push_lt hb,Array.getElem?_eq_getElem hb]
 have hle:es.length * s ≤ cells.size:=Nat.le_trans (Nat.mul_le_mul_right s hcap) hsz
 let l:Loc:=⟨w.heap.size,0,s,cells.size⟩
 have hob:∀ w'':World,w''.heap = w'.heap → RelO I w'' (μ ++ [.at l]) (.arr s es) (.at l):=fun w'' e =>
  .arr s es l val rfl ⟨cells,T,lo,hi,by rw [e,hw']; simp [l],rfl,hf⟩ (by simpa [l] using hle) hes
   (fun i j hi hj=>by
    rw [← hc i j hi hj]
    simp only [l,Nat.zero_add]
    rw [← hnew]
    unfold World.cell?; simp only [e])
   (fun i hi j hj=>(hv i hi j hj).mono (fun _ h=>h) (fun b hb=>by rw [e]; exact hold b (R.heap.imm b hb)))
 have R':=R.alloc (o:=.cells cells T (lo,hi)) (ob:=.arr s es) (l:=l) rfl (hob _ (by rw [alloc_heap,hw']))
 have e:(w.alloc (.cells cells T (lo,hi))).heap = w'.heap:=by rw [alloc_heap,hw']
 have R2:Rel I (μ ++ [.at l]) { st with h:=st.h ++ [.arr s es] } a w':=by
  refine ⟨fun d=>(R'.tmps d).mono (fun _ h=>h) (fun b _=>by rw [e]),R'.size,R'.defers,⟨R'.heap.len,fun k ob x h1 h2=>?_,R'.heap.notI,R'.heap.apart,fun b hb=>by rw [← e]; exact R'.heap.imm b hb,R'.heap.know.step (fun _ h=>h) (fun b _=>by rw [e])⟩⟩
  exact (R'.heap.objs k ob x h1 h2).mono (fun _ h=>h) (fun b _=>by rw [e]) (fun _ _ h=>h) (fun _ _=>by rw [e])
 have hv:RelV I w' (μ ++ [.at l]) (.ref st.h.length 0 es.length) (.slice (some ⟨w.heap.size,0,none⟩) es.length cap):=by
  have:=RelV.ref (I:=I) (w:=w') (μ ++ [.at l]) st.h.length 0 es.length cap l (by rw [MM.loc_some,← R.heap.len,get_append_self]) hcap (by simp only [l]; simpa using hsz)
  simpa [l] using this
 refine hk _ _ _ _ _ hN (R2.put hv o.dst) ?_ (Pre.append _ hn)
 ·have S:=Step.alloc (I:=I) (μ:=μ) (w:=w) (o:=.cells cells T (lo,hi)) (l:=l) rfl
  exact ⟨S.mono,by rw [← e]; exact S.grow,fun b h1 h2=>by rw [← e]; exact S.same b h1 h2,S.own,S.imm,hx1⟩
end Go.Q
namespace Go.Q
open Go
theorem RelO.box_inv {I:Nat → Prop} {w:World} {μ:MM} {cs:List AV} {x:Slot} (h:RelO I w μ (.box cs) x) :
  ∃ (l:Loc) (val:Nat → Value),x = .at l ∧ BlockOK w l ∧ l.base + cs.length ≤ l.size ∧ (∀ j,j < cs.length → w.cell? ⟨l.block,l.base + j,none⟩ = some (val j)) ∧
   ∀ j (hj:j < cs.length),RelV I w μ cs[j] (val j):=by
 cases h with
 | box _ l val hb hsz hc hv=>exact ⟨l,val,rfl,hb,hsz,hc,hv⟩
theorem RelO.arr_inv {I:Nat → Prop} {w:World} {μ:MM} {s:Nat} {es:List AV} {x:Slot} (h:RelO I w μ (.arr s es) x) :
  (x = .nil ∧ es = []) ∨ ∃ (l:Loc) (val:Nat → Nat → Value),x = .at l ∧ l.esz = s ∧ BlockOK w l ∧ l.base + es.length * s ≤ l.size ∧ (∀ i (hi:i < es.length),(es[i]).cells.length = s) ∧
   (∀ i j,i < es.length → j < s → w.cell? ⟨l.block,l.base + i * s + j,none⟩ = some (val i j)) ∧
   ∀ i (hi:i < es.length) j (hj:j < (es[i]).cells.length),RelV I w [] ((es[i]).cells[j]) (val i j):=by
 cases h with
 | arr0=>exact .inl ⟨rfl,rfl⟩
 | arr _ _ l val hs hb hsz hn hc hv=>exact .inr ⟨l,val,rfl,hs,hb,hsz,hn,hc,hv⟩
theorem Rel.ptr [KN:Know] {I:Nat → Prop} {μ:MM} {h:List AObj} {w:World} (H:RelH I μ h w) {o j:Nat} {cs:List AV} (ho:h[o]? = some (.box cs)) {v:Value} (hv:RelV I w μ (.ptr o j) v) :
  ∃ (l:Loc) (val:Nat → Value),μ.loc o = some l ∧ v = .pointer (some ⟨l.block,l.base + j,none⟩) ∧ BlockOK w l ∧ l.base + cs.length ≤ l.size ∧
   (∀ j,j < cs.length → w.cell? ⟨l.block,l.base + j,none⟩ = some (val j)) ∧ ∀ j (hj:j < cs.length),RelV I w μ cs[j] (val j):=by
 obtain ⟨x,hx,hO⟩:=Rel.slot H ho
 obtain ⟨l,val,rfl,hb,hsz,hc,hr⟩:=hO.box_inv
 cases hv with
 | ptr _ _ _ l' hl =>
  have:=MM.loc_some.1 hl
  rw [hx] at this
  cases this
  exact ⟨l,val,hl,rfl,hb,hsz,hc,hr⟩
 | ptrX _ _ _ _ hl=>rw [hx] at hl; cases hl
theorem loadVar_ok [_KN:Know] {P:Program} {I:Nat → Prop} {w:World} {μ:MM} {t:TypeId} {cs:List AV} {b base off:Nat} {val:Nat → Value} {av:AV} (h:acut P t cs off = some av)
  (hc:∀ j,j < cs.length → w.cell? ⟨b,base + j,none⟩ = some (val j)) (hv:∀ j (hj:j < cs.length),RelV I w μ cs[j] (val j)) :
  ∃ r,(loadVar t ⟨b,base + off,none⟩).run P w = .ok r w ∧ RelV I w μ av r:=by
 unfold acut at h
 split at h
 ·rename_i n ha hs
  split at h
  ·rename_i hle
   obtain rfl:=Option.some.inj h
   have hl:=loadCells_ok (P:=P) (w:=w) (b:=b) (off:=base + off) (val:=fun j=>val (off + j)) n (fun j hj=>by rw [Nat.add_assoc]; exact hc (off + j) (by omega))
   refine ⟨.agg ((List.range n).map fun j=>val (off + j)).toArray,?_,?_⟩
   ·simp only [loadVar,Sem.run_bind,run_isAggQ ha,Result.andThen_ok,if_true,run_sizeQ hs,hl,Sem.run_pure]
   ·refine .agg _ _ _ (by simp; omega) (fun i hi=>?_)
    simp only [List.length_take,List.length_drop] at hi
    have:=hv (off + i) (by omega)
    rw [getD_of (by simp; omega)]
    simpa using this
  ·cases h
 ·rename_i ha
  have hlt:off < cs.length:=by
   rcases Nat.lt_or_ge off cs.length with h1 | h1
   ·exact h1
   ·rw [List.getElem?_eq_none h1] at h; cases h
  rw [List.getElem?_eq_getElem hlt] at h
  obtain rfl:=Option.some.inj h
  refine ⟨val off,?_,hv off hlt⟩
  simp only [loadVar,Sem.run_bind,run_isAggQ ha,Result.andThen_ok,Bool.false_eq_true,if_false,run_load,hc off hlt]
 ·cases h
def splice (cs:List AV) (off:Nat) (new:List AV):List AV:=cs.take off ++ new ++ cs.drop (off + new.length)
theorem splice_length {cs new:List AV} {off:Nat} (h:off + new.length ≤ cs.length):(splice cs off new).length = cs.length:=by
 simp [splice]; omega
theorem splice_get [_KN:Know] {cs new:List AV} {off:Nat} (h:off + new.length ≤ cs.length) (j:Nat) (hj:j < (splice cs off new).length) :
  (∃ hk:j - off < new.length,off ≤ j ∧ (splice cs off new)[j] = new[j - off]) ∨ ((j < off ∨ off + new.length ≤ j) ∧ ∃ hk:j < cs.length,(splice cs off new)[j] = cs[j]):=by
 have hl:=splice_length h
 have hjl:j < cs.length:=by rw [← hl]; exact hj
 have hlen:(cs.take off).length = off:=by simp; omega
 have hlen2:(cs.take off ++ new).length = off + new.length:=by simp; omega
 unfold splice at hj ⊢
 rcases Nat.lt_or_ge j off with h1 | h1
 ·refine .inr ⟨.inl h1,hjl,?_⟩
  rw [List.getElem_append_left (by rw [hlen2]; omega),List.getElem_append_left (by rw [hlen]; exact h1),List.getElem_take]
 ·rcases Nat.lt_or_ge j (off + new.length) with h2 | h2
  ·refine .inl ⟨by omega,h1,?_⟩
   rw [List.getElem_append_left (by rw [hlen2]; exact h2),List.getElem_append_right (by rw [hlen]; exact h1)]
   simp only [hlen]
  ·refine .inr ⟨.inr h2,hjl,?_⟩
   rw [List.getElem_append_right (by rw [hlen2]; exact h2),List.getElem_drop]
   simp only [hlen2,Nat.add_sub_cancel' h2]
theorem SOp.storeBox [KN:Know] {P:Program} {n:Nat} {o:Oper} {N:St → Prop} {st:St} {t:TypeId} {x y:Operand} (ho:o.op = .store t x y) {k j:Nat} {cs:List AV}
  (hx:aeval st x = .ptr k j) (hk:st.h[k]? = some (.box cs)) (hy:cellsQ st.h (aeval st y) = true) (hs:sizeQ P t = some (aeval st y).cells.length) (hj:j + (aeval st y).cells.length ≤ cs.length)
  (hN:N (({ st with h:=st.h.set k (.box (splice cs j (aeval st y).cells)) }:St).put o.dst .undef)):SOp P n o N st:=by
 intro I μ a w R hn next Q hnext
 have hxv:=R.eval x
 have hyv:=R.eval y
 rw [hx] at hxv
 obtain ⟨l,val,hl,hxe,hb,hsz,hc,hv⟩:=Rel.ptr R.heap hk hxv
 obtain ⟨hy1,hy2,hy3⟩:=cellsQ_ok R.heap hy hyv
 obtain ⟨w',hr,⟨hs1,hx1⟩,ho1,hb1,hc1⟩:=storeCells_ok (P:=P) (l:=l) (a.eval y).cells.toList (l.base + j) 0 w hb (by simp [hy1]; omega) hy2
 have hrun:(execOp a.eval o).run P w = .ok .skip w':=by
  simp only [execOp,ho,Instr.storeAt,hxe,Instr.sureAddr,storeVar,Sem.run_bind,Sem.run_pure,Result.andThen_ok,run_sizeQ hs,hy1,ne_eq,not_true_eq_false,if_false,Sem.run_ite,hr]
 have hI:∀ b,I b → w'.heap[b]? = w.heap[b]?:=fun b hb=>ho1 b (fun e=>R.heap.notI b ⟨k,l,hl,e.symm⟩ hb)
 have hrelo:RelO I w' μ (.box (splice cs j (aeval st y).cells)) (.at l):=by
  refine .box _ l (fun i=>if j ≤ i ∧ i < j + (aeval st y).cells.length then (a.eval y).cells.getD (i - j) Go.undef else val i) hb1 (by rw [splice_length hj]; exact hsz) (fun i hi=>?_) (fun i hi=>?_)
  ·rw [splice_length hj] at hi
   rw [hc1]
   simp only [Nat.add_zero,Array.length_toList,hy1]
   by_cases h1:j ≤ i ∧ i < j + (aeval st y).cells.length
   ·rw [if_pos (by omega),if_pos h1,getD_of (by omega),show l.base + i - (l.base + j) = i - j by omega]
    simp <;> omega
   ·rw [if_neg (by omega),if_neg h1]
    exact hc i hi
  ·rcases splice_get hj i hi with ⟨hk',h1,e⟩ | ⟨h1,hk',e⟩
   ·rw [e,if_pos (by omega)]
    exact (hy3 (i - j) hk').mono (fun _ h=>h) hI
   ·rw [e,if_neg (by omega)]
    exact (hv i hk').mono (fun _ h=>h) hI
 unfold Oper.wp
 rw [hrun]
 exact hnext _ _ _ _ _ hN ((R.update hl hs1 ho1 hrelo).put (.undef _ _) o.dst) (Step.update hl hs1 ho1 hx1) (Pre.refl _ _ hn)
theorem SOp.loadBox [KN:Know] {P:Program} {n:Nat} {o:Oper} {N:St → Prop} {st:St} {t:TypeId} {x:Operand} (ho:o.op = .load t x) {k j:Nat} {cs:List AV}
  (hx:aeval st x = .ptr k j) (hk:st.h[k]? = some (.box cs)) {av:AV} (hav:acut P t cs j = some av) (hN:N (st.put o.dst av)):SOp P n o N st:=by
 refine SOp.pure (fun I μ a w R=>?_) hN
 have hxv:=R.eval x
 rw [hx] at hxv
 obtain ⟨l,val,hl,hxe,hb,hsz,hc,hv⟩:=Rel.ptr R.heap hk hxv
 obtain ⟨r,hr,hrel⟩:=loadVar_ok (off:=j) hav hc hv
 exact ⟨r,by simp only [execOp,ho,Instr.loadAt,hxe,Instr.sureAddr,Sem.run_bind,Sem.run_pure,Result.andThen_ok,hr],hrel⟩
theorem SOp.loadI [KN:Know] {P:Program} {n:Nat} {o:Oper} {N:St → Prop} {st:St} {t:TypeId} {x:Operand} (ho:o.op = .load t x) {c:AV}
  (hx:aeval st x = .iptr c) (hl:loadable P t c) (hN:N (st.put o.dst c)):SOp P n o N st:=by
 refine SOp.pure (fun I μ a w R=>?_) hN
 have hxv:=R.eval x
 rw [hx] at hxv
 obtain ⟨b,off,val,hxe,hI,hc,hv⟩:=hxv.iptr_inv
 have key:∃ r,(loadVar t ⟨b,off,none⟩).run P w = .ok r w ∧ RelV I w μ c r:=by
  unfold loadable at hl
  split at hl
  ·rename_i ha
   obtain ⟨h1,h2⟩:=hl
   cases c with
   | agg cs =>
    have:=loadVar_ok (P:=P) (I:=I) (w:=w) (μ:=μ) (t:=t) (cs:=cs) (b:=b) (base:=off) (off:=0) (val:=val) (av:=.agg cs)
     (by unfold acut; rw [ha,h2]; simp [AV.cells]) hc (fun j hj=>(hv j hj).any)
    simpa using this
   | _=>cases h1
  ·rename_i ha
   have hcells:c.cells = [c]:=by cases c <;> first | rfl | cases hl
   have:=loadVar_ok (P:=P) (I:=I) (w:=w) (μ:=μ) (t:=t) (cs:=[c]) (b:=b) (base:=off) (off:=0) (val:=val) (av:=c)
    (by unfold acut; rw [ha]; simp) (fun j hj=>hc j (by rw [hcells]; exact hj)) (fun j hj=>by
     have:=hv j (by rw [hcells]; exact hj)
     simp only [hcells] at this
     exact this.any)
   simpa using this
  ·exact hl.elim
 obtain ⟨r,hr,hrel⟩:=key
 exact ⟨r,by simp only [execOp,ho,Instr.loadAt,hxe,Instr.sureAddr,Sem.run_bind,Sem.run_pure,Result.andThen_ok,hr],hrel⟩
theorem Rel.ref [KN:Know] {I:Nat → Prop} {μ:MM} {h:List AObj} {w:World} (H:RelH I μ h w) {o off len s:Nat} {es:List AV} (ho:h[o]? = some (.arr s es)) {v:Value} (hv:RelV I w μ (.ref o off len) v) :
  (v = .slice none 0 0 ∧ off = 0 ∧ len = 0 ∧ es = [] ∧ μ[o]? = some .nil) ∨ (∃ (a:Option Addr) (l:Loc),v = .slice a 0 0 ∧ len = 0 ∧ μ.loc o = some l) ∨
  ∃ (l:Loc) (cap:Nat) (val:Nat → Nat → Value),μ.loc o = some l ∧ v = .slice (some ⟨l.block,l.base + off * s,none⟩) len cap ∧ len ≤ cap ∧ l.base + (off + cap) * s ≤ l.size ∧ l.esz = s ∧
   BlockOK w l ∧ l.base + es.length * s ≤ l.size ∧ (∀ i (hi:i < es.length),(es[i]).cells.length = s) ∧
   (∀ i j,i < es.length → j < s → w.cell? ⟨l.block,l.base + i * s + j,none⟩ = some (val i j)) ∧
   ∀ i (hi:i < es.length) j (hj:j < (es[i]).cells.length),RelV I w [] ((es[i]).cells[j]) (val i j):=by
 obtain ⟨x,hx,hO⟩:=Rel.slot H ho
 rcases hO.arr_inv with ⟨rfl,rfl⟩ | ⟨l,val,rfl,hs,hb,hsz,hn,hc,hr⟩
 ·cases hv with
  | ref _ _ _ _ _ l hl=>rw [MM.loc_some,hx] at hl; cases hl
  | ref0=>exact .inl ⟨rfl,rfl,rfl,rfl,hx⟩
  | refE _ _ _ l _ hl=>rw [MM.loc_some,hx] at hl; cases hl
  | refX _ _ _ _ _ hl=>rw [hx] at hl; cases hl
 ·cases hv with
  | ref _ _ _ _ cap l' hl hlen hcap =>
   have:=MM.loc_some.1 hl
   rw [hx] at this
   cases this
   subst hs
   exact .inr (.inr ⟨l,cap,val,hl,rfl,hlen,hcap,rfl,hb,hsz,hn,hc,hr⟩)
  | refE _ _ _ l' a hl=>exact .inr (.inl ⟨a,l',rfl,rfl,hl⟩)
  | ref0 _ _ hl=>rw [hx] at hl; cases hl
  | refX _ _ _ _ _ hl=>rw [hx] at hl; cases hl
theorem SOp.indexRef [KN:Know] {P:Program} {n:Nat} {o:Oper} {N:St → Prop} {st:St} {t et:TypeId} {x y:Operand} (ho:o.op = .indexAddr t x y) (ht:P.underlying t = some (.slice et)) {s:Nat} (hsz:sizeQ P et = some s)
  {k off len:Nat} {es:List AV} (hx:aeval st x = .ref k off len) (hk:st.h[k]? = some (.arr s es)) {ik:IntKind} {i:Int} (hy:aeval st y = .lit (.int ik i)) (h0:0 ≤ i) (h1:i < len)
  (hN:N (st.put o.dst (.eptr k (off + i.toNat) 0))):SOp P n o N st:=by
 refine SOp.pure (fun I μ a w R=>?_) hN
 have hxv:=R.eval x
 have hyv:=R.eval y
 rw [hx] at hxv
 rw [hy] at hyv
 have hye:=hyv.lit_eq
 rcases Rel.ref R.heap hk hxv with ⟨e,rfl,rfl,rfl,_⟩ | ⟨_,_,_,rfl,_⟩ | ⟨l,cap,val,hl,e,hlen,hcap,hs,hb,_,hn',hc,hv⟩
 ·omega
 ·omega
 ·subst hs
  refine ⟨.pointer (some ⟨l.block,l.base + (off + i.toNat) * l.esz + 0,none⟩),?_,.eptr _ _ _ _ _ hl⟩
  have h2:0 ≤ i ∧ i < (len:Int):=⟨h0,h1⟩
  simp only [execOp,ho,Instr.indexAt,e,hye,asIntOf,Sem.run_bind,Sem.run_pure,Result.andThen_ok,run_underQ ht,h2,and_self,if_true,Sem.run_ite,run_sizeQ hsz,addr_add]
  simp [Nat.add_mul,Nat.add_assoc]
theorem SOp.loadRef [KN:Know] {P:Program} {n:Nat} {o:Oper} {N:St → Prop} {st:St} {t:TypeId} {x:Operand} (ho:o.op = .load t x) {k i j s:Nat} {es:List AV}
  (hx:aeval st x = .eptr k i j) (hk:st.h[k]? = some (.arr s es)) {e:AV} (he:es[i]? = some e) {av:AV} (hav:acut P t e.cells j = some av) (hN:N (st.put o.dst av)):SOp P n o N st:=by
 refine SOp.pure (fun I μ a w R=>?_) hN
 have hxv:=R.eval x
 rw [hx] at hxv
 have hi:i < es.length:=by
  rcases Nat.lt_or_ge i es.length with h1 | h1
  ·exact h1
  ·rw [List.getElem?_eq_none h1] at he; cases he
 rw [List.getElem?_eq_getElem hi] at he
 cases he
 obtain ⟨x',hx',hO⟩:=Rel.slot R.heap hk
 rcases hO.arr_inv with ⟨rfl,rfl⟩ | ⟨l,val,rfl,hs,hb,hsz,hn,hc,hr⟩
 ·simp at hi
 ·subst hs
  cases hxe:a.eval x with
  | pointer p =>
   rw [hxe] at hxv
   have hp:p = some ⟨l.block,l.base + i * l.esz + j,none⟩:=by
    cases hxv with
    | eptr _ _ _ _ l' hl=>rw [MM.loc_some,hx'] at hl; cases hl; rfl
    | eptrX _ _ _ _ _ hl=>rw [hx'] at hl; cases hl
   subst hp
   obtain ⟨r,hr',hrel⟩:=loadVar_ok (P:=P) (I:=I) (w:=w) (μ:=μ) (off:=j) (base:=l.base + i * l.esz) (b:=l.block) (val:=val i) hav (fun j' hj'=>hc i j' hi (by rw [hn i hi] at hj'; exact hj')) (fun j' hj'=>(hr i hi j' hj').any)
   exact ⟨r,by simp only [execOp,ho,Instr.loadAt,hxe,Instr.sureAddr,Sem.run_bind,Sem.run_pure,Result.andThen_ok,hr'],hrel⟩
  | _ =>
   rw [hxe] at hxv
   exfalso
   cases hxv with
   | eptrX _ _ _ _ _ hl=>rw [hx'] at hl; cases hl
theorem SOp.storeRef [KN:Know] {P:Program} {n:Nat} {o:Oper} {N:St → Prop} {st:St} {t:TypeId} {x y:Operand} (ho:o.op = .store t x y) {k i j s:Nat} {es:List AV}
  (hx:aeval st x = .eptr k i j) (hk:st.h[k]? = some (.arr s es)) {e e':AV} (he:es[i]? = some e) (hy:cellsQ st.h (aeval st y) = true) (hp:pureQ (aeval st y) = true) (hs:sizeQ P t = some (aeval st y).cells.length)
  (hj:j + (aeval st y).cells.length ≤ e.cells.length) (he':e'.cells = splice e.cells j (aeval st y).cells)
  (hN:N (({ st with h:=st.h.set k (.arr s (es.set i e')) }:St).put o.dst .undef)):SOp P n o N st:=by
 intro I μ a w R hn next Q hnext
 have hxv:=R.eval x
 have hyv:=R.eval y
 rw [hx] at hxv
 have hi:i < es.length:=by
  rcases Nat.lt_or_ge i es.length with h1 | h1
  ·exact h1
  ·rw [List.getElem?_eq_none h1] at he; cases he
 rw [List.getElem?_eq_getElem hi] at he
 cases he
 obtain ⟨x',hx',hO⟩:=Rel.slot R.heap hk
 obtain ⟨hy1,hy2,hy3⟩:=cellsQ_ok R.heap hy hyv
 have hy4:∀ j (hj:j < (aeval st y).cells.length),RelV I w [] ((aeval st y).cells[j]) ((a.eval y).cells.getD j Go.undef):=by
  have:=pureQ_ok hp hyv []
  exact (cellsQ_ok (μ:=[]) (h:=[]) (I:=I) (w:=w) ⟨rfl,fun o ob x h=>by simp at h,fun b ⟨o,l,h,_⟩=>by simp [MM.loc] at h,fun o o' l l' h=>by simp [MM.loc] at h,R.heap.imm,R.heap.know⟩
   (by
    revert hy hp
    generalize aeval st y = c
    intro hy hp
    have h1:∀ c,pureQ.pureQ1 c = true → oneQ st.h c = true → oneQ [] c = true:=by
     intro c hp ho
     cases c <;> first | exact ho | cases hp
    cases c with
    | agg cs =>
     simp only [cellsQ,pureQ,List.all_eq_true] at *
     exact fun c hc=>h1 c (hp c hc) (hy c hc)
    | _=>exact h1 _ (by simpa only [pureQ] using hp) (by simpa only [cellsQ] using hy)) this).2.2
 rcases hO.arr_inv with ⟨rfl,rfl⟩ | ⟨l,val,rfl,hs',hb,hsz,hn',hc,hr⟩
 ·simp at hi
 ·subst hs'
  have hl:μ.loc k = some l:=MM.loc_some.2 hx'
  have hxe:a.eval x = .pointer (some ⟨l.block,l.base + i * l.esz + j,none⟩):=by
   generalize a.eval x = v at hxv
   cases hxv with
   | eptr _ _ _ _ l' hl=>rw [MM.loc_some,hx'] at hl; cases hl; rfl
   | eptrX _ _ _ _ _ hl=>rw [hx'] at hl; cases hl
  have hecl:=hn' i hi
  have hbig:i * l.esz + l.esz ≤ es.length * l.esz:=by
   have:(i + 1) * l.esz ≤ es.length * l.esz:=Nat.mul_le_mul_right _ hi
   rwa [Nat.add_mul,Nat.one_mul] at this
  obtain ⟨w',hrn,⟨hs1,hx1⟩,ho1,hb1,hc1⟩:=storeCells_ok (P:=P) (l:=l) (a.eval y).cells.toList (l.base + i * l.esz + j) 0 w hb (by simp [hy1]; omega) hy2
  have hrun:(execOp a.eval o).run P w = .ok .skip w':=by
   simp only [execOp,ho,Instr.storeAt,hxe,Instr.sureAddr,storeVar,Sem.run_bind,Sem.run_pure,Result.andThen_ok,run_sizeQ hs,hy1,ne_eq,not_true_eq_false,if_false,Sem.run_ite,hrn]
  have hI:∀ b,I b → w'.heap[b]? = w.heap[b]?:=fun b hb=>ho1 b (fun e=>R.heap.notI b ⟨k,l,hl,e.symm⟩ hb)
  have hel:e'.cells.length = l.esz:=by rw [he',splice_length hj,hecl]
  have hrelo:RelO I w' μ (.arr l.esz (es.set i e')) (.at l):=by
   refine .arr _ _ l (fun i' j'=>if i' = i ∧ j ≤ j' ∧ j' < j + (aeval st y).cells.length then (a.eval y).cells.getD (j' - j) Go.undef else val i' j') rfl hb1 (by simpa using hsz) (fun i' hi'=>?_) (fun i' j' hi' hj'=>?_) (fun i' hi' j' hj'=>?_)
   ·rw [List.getElem_set]
    split
    ·exact hel
    ·exact hn' i' (by simpa using hi')
   ·simp only [List.length_set] at hi'
    rw [hc1]
    simp only [Nat.add_zero,Array.length_toList,hy1]
    by_cases h1:i' = i ∧ j ≤ j' ∧ j' < j + (aeval st y).cells.length
    ·obtain ⟨rfl,h2,h3⟩:=h1
     rw [if_pos (by omega),if_pos ⟨rfl,h2,h3⟩,getD_of (by omega),show l.base + i' * l.esz + j' - (l.base + i' * l.esz + j) = j' - j by omega]
     simp <;> omega
    ·rw [if_neg h1,if_neg ?_]
     ·exact hc i' j' hi' hj'
     ·intro h2
      apply h1
      rcases Nat.lt_trichotomy i' i with h3 | h3 | h3
      ·exfalso
       have:(i' + 1) * l.esz ≤ i * l.esz:=Nat.mul_le_mul_right _ h3
       rw [Nat.add_mul,Nat.one_mul] at this
       omega
      ·subst h3; exact ⟨rfl,by omega,by omega⟩
      ·exfalso
       have:(i + 1) * l.esz ≤ i' * l.esz:=Nat.mul_le_mul_right _ h3
       rw [Nat.add_mul,Nat.one_mul] at this
       omega
   ·simp only [List.length_set] at hi'
    by_cases h1:i' = i
    ·subst h1
     have e1:(es.set i' e')[i']'(by simpa using hi') = e':=by simp
     have hj2:j' < e'.cells.length:=by rw [← e1]; exact hj'
     simp only [e1]
     have hj3:j' < (splice es[i'].cells j (aeval st y).cells).length:=by rw [← he']; exact hj2
     have e2:e'.cells[j'] = (splice es[i'].cells j (aeval st y).cells)[j']:=by simp only [he']
     rw [e2]
     rcases splice_get hj j' hj3 with ⟨hk',h1,e⟩ | ⟨h1,hk',e⟩
     ·rw [e,if_pos ⟨trivial,h1,by omega⟩]
      exact (hy4 (j' - j) hk').mono (fun _ h=>h) hI
     ·rw [e,if_neg (fun h=>by omega)]
      exact (hr i' hi j' hk').mono (fun _ h=>h) hI
    ·have e1:(es.set i e')[i']'(by simpa using hi') = es[i']:=by rw [List.getElem_set_ne (fun h=>h1 h.symm)]
     have hj2:j' < (es[i']).cells.length:=by rw [← e1]; exact hj'
     rw [if_neg (by omega)]
     simp only [e1]
     exact (hr i' hi' j' hj2).mono (fun _ h=>h) hI
  unfold Oper.wp
  rw [hrun]
  exact hnext _ _ _ _ _ hN ((R.update hl hs1 ho1 hrelo).put (.undef _ _) o.dst) (Step.update hl hs1 ho1 hx1) (Pre.refl _ _ hn)
end Go.Q
