import Derived.Test.YtmfhkipeapdfmaaGreatDoorFD
import Derived.Lib.Strings
namespace Go.Q
open Go
def restrictH (o:Oper) (s:St) (h:List AObj):St:=⟨s.n,(tmpsOf o).map (fun t=>(t,s.get t)),h⟩
def MO [KN:Know] (P:Program) (o:Oper) (s:St) (h:List AObj) (av:AV) (h':List AObj):Prop :=
 SOp P h.length o (fun st''=>st'' = { (restrictH o s h).put o.dst av with h:=h' }) (restrictH o s h)
structure TraceM [KN:Know] (P:Program) (ops:Array Oper) (mem:Nat → Bool) (B:Nat → List Nat) (st0:St) (tr:List AV) (hN:Nat → List AObj) (sF:St):Prop where
 h0:hN 0 = st0.h
 pure:∀ i,i < ops.size → mem i = false → hN (i + 1) = hN i
 chain:∀ a b,a < b → b < ops.size → mem a = true → mem b = true → a ∈ B b
 seq:∀ i o,ops.toList[i]? = some o → seqSt ops.toList tr (i + 1) st0 = (seqSt ops.toList tr i st0).put o.dst (tr.getD i .undef)
 get:∀ d,sF.get d = (seqSt ops.toList tr ops.toList.length st0).get d
 n:sF.n = st0.n
 h:sF.h = hN ops.size
 ops:∀ i o,ops.toList[i]? = some o → ∃ s:St,s.n = (seqSt ops.toList tr i st0).n ∧ (∀ d,s.get d = (seqSt ops.toList tr i st0).get d) ∧
  if mem i = true then o.guard = none ∧ MO P o s (hN i) (tr.getD i .undef) (hN (i + 1))
  else match o.guard with
   | none=>∀ c,c ≤ ops.size → (∀ m,mem m = true → m ∈ B i → m < c) → (∀ m,mem m = true → m < c → i ∉ B m) → MO P o s (hN c) (tr.getD i .undef) (hN c)
   | some (j,want)=>∃ d,(ops[j]?).bind (·.dst) = some d ∧ ((∃ b,s.get d = .lit (.bool b) ∧ ((b = want ∧ ∀ c,c ≤ ops.size → (∀ m,mem m = true → m ∈ B i → m < c) → (∀ m,mem m = true → m < c → i ∉ B m) → MO P o s (hN c) (tr.getD i .undef) (hN c)) ∨ (b ≠ want ∧ tr.getD i .undef = .tup []))) ∨ (s.get d = .tup [] ∧ tr.getD i .undef = .tup []))
end Go.Q
namespace Go.Q
open Go
def below0 (k:Nat):AV → Bool
 | .ref o _ _=>Nat.blt o k
 | .ptr o _=>Nat.blt o k
 | .eptr o _ _=>Nat.blt o k
 | .undef=>true
 | .agg _=>false
 | .tup _=>false
 | v=>pureQ v
def belowQ (k:Nat):AV → Bool
 | .agg cs=>cs.all (below0 k)
 | .tup cs=>cs.all (below0 k)
 | v=>below0 k v
def belowH (k:Nat) (h:List AObj):Bool:=h.all fun ob=>match ob with | .box cs=>cs.all (belowQ k) | _=>true
end Go.Q
namespace Go.Q
open Go
def addQ (o:Oper):Bool:=match o.op with
 | .alloc _=>true
 | .box _ _=>true
 | .buildSlice _ _ _=>true
 | .makeSlice _ _ _=>true
 | _=>false
def insQ (o:Oper):Bool:=match o.op with
 | .move _=>true
 | .assign _=>true
 | .slice ..=>true
 | _=>false
structure DNodeH [KN:Know] (P:Program) (o:Oper) (st:St) (hm:List AObj) (K:AV → Prop):Prop where
 ex:∃ av,(insQ o = true → ∀ h,dstep P h.length o (fun st''=>st'' = { (restrictH o st h).put o.dst av with h:=h }) (restrictH o st h)) ∧
  (insQ o = false → dstep P hm.length o (fun st''=>st'' = { (restrictH o st hm).put o.dst av with h:=hm }) (restrictH o st hm) ∧ ((tmpsOf o).all fun t=>belowQ hm.length (st.get t)) = true ∧ belowH hm.length hm = true) ∧ K av
structure MNodeB [KN:Know] (P:Program) (o:Oper) (st:St) (K:AV → List AObj → Prop):Prop where
 ex:∃ av h',dstep P st.h.length o (fun st''=>st'' = { (restrictH o st st.h).put o.dst av with h:=h' }) (restrictH o st st.h) ∧ (addQ o = true → ∃ e,h' = st.h ++ e) ∧ K av h'
theorem seq_zero (l:List Oper) (tr:List AV) (st:St):seqSt l tr 0 st = st:=by cases l <;> cases tr <;> rfl
end Go.Q
namespace Go.Q
open Go
end Go.Q
namespace Go.Q
open Go
def Le {α:Type} (a b:Option α):Prop:=∀ r,a = some r → b = some r
theorem Le.refl {α:Type} (a:Option α):Le a a:=fun _ h=>h
theorem Le.of {α:Type} {a b:Option α} {r:α} (h:Le a b) (e:a = some r):b = some r:=h r e
theorem Le.none {α:Type} (b:Option α):Le Option.none b:=fun _ h=>by cases h
def chkD {ρ:Type} (c:Prop) [h:Decidable c] (X:Option ρ):Option ρ:=bif @decide c h then X else none
theorem Le.chk {ρ:Type} {c:Prop} [Decidable c] {a b:Option ρ} (h:Le a b):Le (chkD c a) (chk c b):=by
 intro r e
 unfold chkD at e
 unfold Q.chk
 by_cases hc:c
 ·rw [if_pos hc]; rw [decide_eq_true hc] at e; exact h r e
 ·rw [decide_eq_false hc] at e; cases e
theorem Le.bind {α ρ:Type} {a b:Option α} {f g:α → Option ρ} (h:Le a b) (k:∀ z,Le (f z) (g z)):Le (a.bind f) (b.bind g):=by
 intro r e
 obtain ⟨y,e1,e2⟩:=bind_elim e
 rw [h y e1]; exact k y r e2
theorem Le.bif {ρ:Type} {t:Bool} {a b c d:Option ρ} (h:Le a b) (k:Le c d):Le (bif t then a else c) (bif t then b else d):=by
 cases t <;> assumption
theorem Le.map {α β:Type} {f:α → β} {a b:Option α} (h:Le a b):Le (a.map f) (b.map f):=by
 intro r e
 obtain ⟨y,e1,e2⟩:=map_elim e
 rw [h y e1]; exact congrArg some e2
theorem Le.iter {σ ρ:Type} {f g:σ → Option (σ ⊕ ρ)} (h:∀ s,Le (f s) (g s)):∀ (n:Nat) (s:σ),Le (iterO f n s) (iterO g n s)
 | 0,_=>Le.none _
 | n + 1,s=>by
  intro r e
  unfold iterO at e ⊢
  split at e
  ·rename_i s' hs; rw [h s _ hs]; exact Le.iter h n s' r e
  ·rename_i r' hs; rw [h s _ hs]; exact e
  ·cases e
theorem Le.loop {σ ρ:Type} {f g:σ → Option (σ ⊕ ρ)} {n:Nat} {s:σ} (h:∀ s,Le (f s) (g s)):Le (iterO f n s) (loopO g s) :=
 fun r e=>(@loopO_iff Know.none _ _ _ _ _).2 ⟨n,Le.iter h n s r e⟩
class Fc (α:Type) where
 fc:{β:Type} → α → (α → β) → β
 eq:∀ {β:Type} (x:α) (k:α → β),fc x k = k x
noncomputable instance:Fc Nat:=⟨fun n k=>Nat.rec (motive:=fun _=>_) (k 0) (fun m _=>k (m + 1)) n,fun n k=>by cases n <;> rfl⟩
noncomputable instance:Fc Bool:=⟨fun b k=>Bool.rec (motive:=fun _=>_) (k false) (k true) b,fun b k=>by cases b <;> rfl⟩
noncomputable instance:Fc Unit:=⟨fun _ k=>k (),fun _ _=>rfl⟩
noncomputable instance:Fc Int:=⟨fun x k=>Int.rec (motive:=fun _=>_) (fun n=>Fc.fc n fun n=>k (.ofNat n)) (fun n=>Fc.fc n fun n=>k (.negSucc n)) x,fun x k=>by cases x <;> simp only [Fc.eq]⟩
noncomputable instance:Fc UInt8:=⟨fun x k=>Fc.fc x.toNat fun n=>k (UInt8.ofNat n),fun x k=>by simp only [Fc.eq]; rw [UInt8.ofNat_toNat]⟩
noncomputable def fcL {α:Type} [Fc α] {β:Type} (l:List α):(List α → β) → β:=List.rec (motive:=fun _=>(List α → β) → β) (fun k=>k []) (fun a _ ih k=>Fc.fc a fun a=>ih fun r=>k (a :: r)) l
theorem fcL_eq {α:Type} [Fc α] {β:Type}:∀ (l:List α) (k:List α → β),fcL l k = k l
 | [],_=>rfl
 | a :: r,k=>by
  show (Fc.fc a fun a=>fcL r fun r=>k (a :: r)) = _
  rw [Fc.eq,fcL_eq r]
noncomputable instance {α:Type} [Fc α]:Fc (List α):=⟨fcL,fcL_eq⟩
noncomputable instance:Fc ByteArray:=⟨fun s k=>Fc.fc s.data.toList fun l=>k ⟨⟨l⟩⟩,fun s k=>by simp only [Fc.eq]⟩
noncomputable instance {α β:Type} [Fc α] [Fc β]:Fc (α × β):=⟨fun p k=>Prod.rec (motive:=fun _=>_) (fun a b=>Fc.fc a fun a=>Fc.fc b fun b=>k (a,b)) p,fun p k=>by obtain ⟨a,b⟩:=p; simp only [Fc.eq]⟩
noncomputable def letkF {α ρ:Type} [Fc α] (x:α) (X:α → Option ρ):Option ρ:=Fc.fc x X
noncomputable def bindF {α ρ:Type} [Fc α] (x:Option α) (X:α → Option ρ):Option ρ:=x.bind fun z=>Fc.fc z X
theorem Le.letkF {α ρ:Type} [Fc α] {x y:α} {f g:α → Option ρ} (e:x = y) (h:∀ z,Le (f z) (g z)):Le (Go.Q.letkF x f) (Go.Q.letk y g):=by
 subst e; unfold Go.Q.letkF Go.Q.letk; rw [Fc.eq]; exact h x
theorem Le.bindF {α ρ:Type} [Fc α] {a b:Option α} {f g:α → Option ρ} (h:Le a b) (k:∀ z,Le (f z) (g z)):Le (Go.Q.bindF a f) (b.bind g):=by
 unfold Go.Q.bindF
 refine Le.bind h (fun z=>?_)
 rw [Fc.eq]; exact k z
end Go.Q
namespace Go.Q
open Go
def fitQ (p:Nat → Bool):AV → Bool
 | .undef=>true
 | .ref o _ _=>p o
 | .ptr o _=>p o
 | .eptr o _ _=>p o
 | v=>pureQ v
def fitO (p:Nat → Bool):AObj → Bool
 | .box cs=>cs.all (fitQ p)
 | _=>true
theorem fit_rel [KN:Know] {I:Nat → Prop} {w:World} {μ μ':MM} {p:Nat → Bool} (hμ:∀ o,p o = true → μ'[o]? = μ[o]?) {v:AV} {x:Value} (hf:fitQ p v = true) (h:RelV I w μ v x):RelV I w μ' v x:=by
 have hp:∀ v,pureQ v = true → RelV I w μ v x → RelV I w μ' v x:=fun v hv hr=>pureQ_ok hv hr μ'
 have hloc:∀ o l,p o = true → μ.loc o = some l → μ'.loc o = some l:=fun o l ho hl=>MM.loc_some.2 ((hμ o ho).trans (MM.loc_some.1 hl))
 cases v with
 | undef=>exact .undef _ _
 | ref o off len =>
  have ho:p o = true:=hf
  cases h with
  | ref _ _ _ _ cap l hl hlen hcap=>exact .ref _ o off len cap l (hloc o l ho hl) hlen hcap
  | ref0 _ _ hl=>exact .ref0 _ o ((hμ o ho).trans hl)
  | refE _ _ _ l a hl=>exact .refE _ o off l a (hloc o l ho hl)
  | refX _ _ _ _ _ hl=>exact .refX _ o off len _ ((hμ o ho).trans hl)
 | ptr o j =>
  have ho:p o = true:=hf
  cases h with
  | ptrX _ _ _ _ hl=>exact .ptrX _ o j _ ((hμ o ho).trans hl)
  | ptr _ _ _ l hl=>exact .ptr _ o j l (hloc o l ho hl)
 | eptr o i j =>
  have ho:p o = true:=hf
  cases h with
  | eptrX _ _ _ _ _ hl=>exact .eptrX _ o i j _ ((hμ o ho).trans hl)
  | eptr _ _ _ _ l hl=>exact .eptr _ o i j l (hloc o l ho hl)
 | lit u=>exact hp _ hf h
 | nils=>exact hp _ hf h
 | agg cs=>exact hp _ hf h
 | tup cs=>exact hp _ hf h
 | vs s es=>exact hp _ hf h
 | iptr c=>exact hp _ hf h
 | fn f a b=>exact hp _ hf h
theorem fit_obj [KN:Know] {I I':Nat → Prop} {w w':World} {μ μ':MM} {p:Nat → Bool} (hμ:∀ o,p o = true → μ'[o]? = μ[o]?) (hI:∀ b,I b → I' b) (hw:∀ b,I b → w'.heap[b]? = w.heap[b]?) {ob:AObj} {x:Slot} (hf:fitO p ob = true)
  (hl:∀ l,x = .at l → w'.heap[l.block]? = w.heap[l.block]?) (h:RelO I w μ ob x):RelO I' w' μ' ob x:=by
 cases h with
 | dead=>exact .dead
 | arr0 s=>exact .arr0 s
 | arr s es l val hse hb hsz hn hc hv =>
  exact .arr s es l val hse (hb.same (hl l rfl)) hsz hn (fun i j hi hj=>by rw [cell_same (hl l rfl)]; exact hc i j hi hj) (fun i hi j hj=>(hv i hi j hj).mono hI hw)
 | box cs l val hb hsz hc hv =>
  exact .box cs l val (hb.same (hl l rfl)) hsz (fun j hj=>by rw [cell_same (hl l rfl)]; exact hc j hj) (fun j hj=>(fit_rel hμ (List.all_eq_true.1 hf _ (List.getElem_mem hj)) (hv j hj)).mono hI hw)
theorem RelH.lt [KN:Know] {I:Nat → Prop} {μ:MM} {h:List AObj} {w:World} (H:RelH I μ h w) {b:Nat} (hb:μ.owns b):b < w.heap.size:=by
 obtain ⟨o,l,hl,rfl⟩:=hb
 have ho:=MM.loc_some.1 hl
 have hlt:o < μ.length:=(List.getElem?_eq_some_iff.1 ho).1
 obtain ⟨ob,hob⟩:∃ ob,h[o]? = some ob:=⟨_,List.getElem?_eq_getElem (by rw [← H.len]; exact hlt)⟩
 obtain ⟨c,T,lo,hi,e,_⟩:=(H.objs o ob _ hob ho).blockOK
 rcases Nat.lt_or_ge l.block w.heap.size with h1 | h1
 ·exact h1
 ·rw [Array.getElem?_eq_none h1] at e; cases e
def keepF (k m:Nat):AV → AV
 | .ptr o j=>bif Nat.blt o k || Nat.ble m o then .ptr o j else .undef
 | .ref o a b=>bif Nat.blt o k || Nat.ble m o then .ref o a b else .undef
 | v=>bif pureQ v then v else .undef
theorem keepF_undef (k m:Nat):keepF k m .undef = .undef:=rfl
theorem keepF_rel [KN:Know] {I I':Nat → Prop} {w w':World} {μ μ':MM} {k m:Nat} (hI:∀ b,I b → I' b) (hw:∀ b,I b → w'.heap[b]? = w.heap[b]?) (hp:∀ o,o < k → μ'[o]? = μ[o]? ∨ μ'[o]? = some .gone) (hm:∀ o,m ≤ o → μ'[o]? = μ[o]?) {v:AV} {x:Value} (h:RelV I w μ v x):RelV I' w' μ' (keepF k m v) x:=by
 have hpure:∀ v,RelV I w μ v x → RelV I' w' μ' (bif pureQ v then v else .undef) x:=by
  intro v hv
  cases hq:pureQ v with
  | true=>exact (pureQ_ok hq hv μ').mono hI hw
  | false=>exact .undef _ _
 cases v with
 | ptr o j =>
  show RelV I' w' μ' (bif Nat.blt o k || Nat.ble m o then .ptr o j else .undef) x
  cases hb:(Nat.blt o k || Nat.ble m o) with
  | false=>exact .undef _ _
  | true =>
   have ho:μ'[o]? = μ[o]? ∨ μ'[o]? = some .gone:=by
    rcases Bool.or_eq_true_iff.1 hb with h1 | h1
    ·exact hp o (Nat.le_of_ble_eq_true h1)
    ·exact .inl (hm o (Nat.le_of_ble_eq_true h1))
   cases h with
   | ptrX _ _ _ _ hl =>
    rcases ho with e | e
    ·exact .ptrX _ o j _ (e.trans hl)
    ·exact .ptrX _ o j _ e
   | ptr _ _ _ l hl =>
    rcases ho with e | e
    ·exact .ptr _ o j l (MM.loc_some.2 (e.trans (MM.loc_some.1 hl)))
    ·exact .ptrX _ o j _ e
 | ref o a b =>
  show RelV I' w' μ' (bif Nat.blt o k || Nat.ble m o then .ref o a b else .undef) x
  cases hb:(Nat.blt o k || Nat.ble m o) with
  | false=>exact .undef _ _
  | true=>exact (ref_rel ((Bool.or_eq_true_iff.1 hb).elim (fun h1=>hp o (Nat.le_of_ble_eq_true h1)) (fun h1=>.inl (hm o (Nat.le_of_ble_eq_true h1)))) h).mono hI hw
 | _=>exact hpure _ h
theorem CallOK.frame [KN:Know] {P:Program} {n k m:Nat} {g:FuncId} {args:List AV} {st:St} {K:St → AV → Prop} {R:AV → List AObj → Prop} {hs rest:List AObj} (hn:∀ o,o < n → o < k ∨ m ≤ o) (hst:st.h = hs ++ rest) (hm:hs.length = m) (h:ACallsK P g args hs k R)
  (hlen:∀ r h',R r h' → h'.length = m) (fh:hs.all (fitO (fun o=>Nat.blt o m)) = true) (fa:args.all (fitQ (fun o=>Nat.blt o m)) = true) (fr:rest.all (fitO (fun o=>Nat.ble m o)) = true)
  (hK:∀ r h',R r h' → K ⟨st.n,st.ts.map (fun p=>(p.1,keepF k m p.2)),h' ++ rest⟩ r):CallOK P n g args st K:=by
 intro I μ a w vals Rl hnμ hv
 have H:=Rl.heap
 rw [hst] at H
 have hμl:μ.length = m + rest.length:=by rw [H.len,List.length_append,hm]
 obtain ⟨μ1,μ2,rfl,hl1⟩:∃ μ1 μ2,μ = μ1 ++ μ2 ∧ μ1.length = m:=⟨μ.take m,μ.drop m,(List.take_append_drop m μ).symm,by rw [List.length_take]; omega⟩
 have g1:∀ o,o < m → (μ1 ++ μ2)[o]? = μ1[o]?:=fun o ho=>List.getElem?_append_left (by omega)
 have g2:∀ (μ':MM),μ'.length = m → ∀ o,m ≤ o → (μ' ++ μ2)[o]? = μ2[o - m]?:=fun μ' h' o ho=>by rw [List.getElem?_append_right (by omega),h']
 have l1:∀ o l,μ1.loc o = some l → (μ1 ++ μ2).loc o = some l:=fun o l hl=>by
  have:=MM.loc_some.1 hl
  have ho:o < μ1.length:=(List.getElem?_eq_some_iff.1 this).1
  exact MM.loc_some.2 ((g1 o (by omega)).trans this)
 have o1:∀ b,μ1.owns b → (μ1 ++ μ2).owns b:=fun b ⟨o,l,h1,h2⟩=>⟨o,l,l1 o l h1,h2⟩
 have o2:∀ b,μ2.owns b → (μ1 ++ μ2).owns b:=fun b ⟨o,l,h1,h2⟩=>⟨o + m,l,MM.loc_some.2 (by rw [g2 μ1 hl1 _ (by omega),Nat.add_sub_cancel]; exact MM.loc_some.1 h1),h2⟩
 have bltm:∀ o,Nat.blt o m = true → (μ1)[o]? = (μ1 ++ μ2)[o]?:=fun o ho=>(g1 o (Nat.le_of_ble_eq_true ho)).symm
 have apart12:∀ b,μ1.owns b → ¬ μ2.owns b:=fun b ⟨o,l,h1,h2⟩ ⟨o',l',h3,h4⟩=>by
  have e:=H.apart o (o' + m) l l' (l1 o l h1) (MM.loc_some.2 (by rw [g2 μ1 hl1 _ (by omega),Nat.add_sub_cancel]; exact MM.loc_some.1 h3)) (by rw [h2,h4])
  have ho:o < μ1.length:=(List.getElem?_eq_some_iff.1 (MM.loc_some.1 h1)).1
  omega
 have H1:RelH I μ1 hs w:=by
  refine ⟨by rw [hl1,hm],fun o ob x ho hx=>?_,fun b hb=>H.notI b (o1 b hb),fun o o' l l' h1 h2 e=>H.apart o o' l l' (l1 o l h1) (l1 o' l' h2) e,H.imm,H.know⟩
  have hlt:o < μ1.length:=(List.getElem?_eq_some_iff.1 hx).1
  have:=H.objs o ob x (by rw [List.getElem?_append_left (by omega)]; exact ho) ((g1 o (by omega)).trans hx)
  exact fit_obj bltm (fun _ h=>h) (fun _ _=>rfl) (List.all_eq_true.1 fh ob (List.mem_of_getElem? ho)) (fun _ _=>rfl) this
 have hv1:ArgsRel I w μ1 args vals:=⟨hv.1,fun i hi=>fit_rel bltm (List.all_eq_true.1 fa _ (List.getElem_mem hi)) (hv.2 i hi)⟩
 refine (h I μ1 w vals H1 hv1).mono ?_
 rintro e w' ⟨v,r,h',I',μ',rfl,hR,H',hr,S,hp⟩
 have hl':μ'.length = m:=by rw [H'.len,hlen r h' hR]
 have lo':∀ o,o < m → (μ' ++ μ2)[o]? = μ'[o]?:=fun o ho=>List.getElem?_append_left (by omega)
 have hi':∀ o,m ≤ o → (μ' ++ μ2)[o]? = (μ1 ++ μ2)[o]?:=fun o ho=>by rw [g2 μ' hl' o ho,g2 μ1 hl1 o ho]
 have hwI:∀ b,I b → w'.heap[b]? = w.heap[b]?:=S.keepI H1
 have own2:∀ b,μ2.owns b → w'.heap[b]? = w.heap[b]?:=fun b hb=>S.same b (H.lt (o2 b hb)) (fun h1=>apart12 b h1 hb)
 have split:∀ o l,(μ' ++ μ2).loc o = some l → (o < m ∧ μ'.loc o = some l) ∨ (m ≤ o ∧ (μ1 ++ μ2).loc o = some l ∧ μ2.owns l.block):=fun o l hl=>by
  have h0:=MM.loc_some.1 hl
  rcases Nat.lt_or_ge o m with h1 | h1
  ·exact .inl ⟨h1,MM.loc_some.2 ((lo' o h1).symm.trans h0)⟩
  ·refine .inr ⟨h1,MM.loc_some.2 ((hi' o h1).symm.trans h0),o - m,l,MM.loc_some.2 ?_,rfl⟩
   rw [← g2 μ' hl' o h1]; exact h0
 have far:∀ b,μ'.owns b → ¬ μ2.owns b:=fun b hb h2=>by
  rcases S.own b hb with h3 | h3
  ·exact apart12 b h3 h2
  ·have:=H.lt (o2 b h2); omega
 have H'':RelH I' (μ' ++ μ2) (h' ++ rest) w':=by
  refine ⟨by rw [List.length_append,List.length_append,hl',hlen r h' hR]; rw [List.length_append,hl1] at hμl; omega,fun o ob x ho hx=>?_,fun b hb hI=>?_,fun o o' l l' h1 h2 e=>?_,H'.imm,H'.know⟩
  ·have hh:=hlen r h' hR
   rcases Nat.lt_or_ge o m with h1 | h1
   ·rw [List.getElem?_append_left (by omega)] at ho
    rw [lo' o h1] at hx
    exact (H'.objs o ob x ho hx).mono (fun _ h=>h) (fun _ _=>rfl) (fun _ _ h=>h.sub (MM.sub_append _ _)) (fun _ _=>rfl)
   ·rw [List.getElem?_append_right (by omega),hh] at ho
    rw [hi' o h1] at hx
    have:=H.objs o ob x (by rw [List.getElem?_append_right (by omega),hm]; exact ho) hx
    refine fit_obj (p:=fun o=>Nat.ble m o) (fun o ho=>hi' o (Nat.le_of_ble_eq_true ho)) S.mono hwI (List.all_eq_true.1 fr ob (List.mem_of_getElem? ho)) (fun l e=>?_) this
    subst e
    refine own2 _ ⟨o - m,l,MM.loc_some.2 ?_,rfl⟩
    rw [← g2 μ1 hl1 o h1]; exact hx
  ·obtain ⟨o,l,hl,rfl⟩:=hb
   rcases split o l hl with ⟨_,h2⟩ | ⟨_,h2,h3⟩
   ·exact H'.notI _ ⟨o,l,h2,rfl⟩ hI
   ·rcases S.imm _ hI with h4 | h4 | h4
    ·exact H.notI _ (o2 _ h3) h4
    ·exact apart12 _ h4 h3
    ·have:=H.lt (o2 _ h3); omega
  ·rcases split o l h1 with ⟨a1,a2⟩ | ⟨a1,a2,a3⟩ <;> rcases split o' l' h2 with ⟨b1,b2⟩ | ⟨b1,b2,b3⟩
   ·exact H'.apart o o' l l' a2 b2 e
   ·exact absurd b3 (far _ ⟨o,l,a2,e⟩)
   ·exact absurd a3 (far _ ⟨o',l',b2,e.symm⟩)
   ·exact H.apart o o' l l' a2 b2 e
 refine ⟨v,r,I',μ' ++ μ2,_,rfl,hK r h' hR,⟨fun d=>?_,Rl.size,Rl.defers,H''⟩,hr.sub (MM.sub_append _ _),⟨S.mono,S.grow,fun b hb hn=>S.same b hb (fun h1=>hn (o1 b h1)),fun b hb=>?_,fun b hb=>?_,S.ext⟩,?_⟩
 ·have hd:=Rl.tmps d
  show RelV I' w' (μ' ++ μ2) (if d < st.n then look d (st.ts.map fun p=>(p.1,keepF k m p.2)) else .undef) _
  unfold St.get at hd
  split
  ·rename_i h0
   rw [if_pos h0] at hd
   rw [look_map _ (keepF_undef k m)]
   have hkm:k ≤ m:=by rw [← hl']; exact hp.1
   exact keepF_rel S.mono hwI (fun o ho=>by rw [lo' o (by omega),g1 o (by omega)]; exact hp.2 o ho) hi' hd
  ·exact .undef _ _
 ·obtain ⟨o,l,hl,rfl⟩:=hb
  rcases split o l hl with ⟨_,h2⟩ | ⟨_,h2,h3⟩
  ·rcases S.own _ ⟨o,l,h2,rfl⟩ with h4 | h4
   ·exact .inl (o1 _ h4)
   ·exact .inr h4
  ·exact .inl (o2 _ h3)
 ·rcases S.imm b hb with h4 | h4 | h4
  ·exact .inl h4
  ·exact .inr (.inl (o1 _ h4))
  ·exact .inr (.inr h4)
 ·refine ⟨by rw [List.length_append]; rw [List.length_append] at hnμ; omega,fun o ho=>?_⟩
  have hkm:k ≤ m:=by rw [← hl']; exact hp.1
  rcases hn o ho with h1 | h1
  ·rw [lo' o (by omega),g1 o (by omega)]
   exact hp.2 o h1
  ·exact .inl (by rw [hi' o h1])
theorem CallN.handF [KN:Know] {P:Program} {n k m:Nat} {g:FuncId} {args:List AV} {st:St} {K:St → AV → Prop} {v:AV} {hs hs' rest hs2:List AObj} {ts':List (Nat × AV)} (h:GivesK P g args hs k v hs') (hn:(Nat.ble n k || Nat.beq k m) = true) (hst:st.h = hs ++ rest) (hm:hs.length = m) (hm':hs'.length = m)
  (fh:hs.all (fitO (fun o=>Nat.blt o m)) = true) (fa:args.all (fitQ (fun o=>Nat.blt o m)) = true) (fr:rest.all (fitO (fun o=>Nat.ble m o)) = true)
  (hts:st.ts.map (fun p=>(p.1,keepF k m p.2)) = ts') (hs2e:hs' ++ rest = hs2) (hK:K ⟨st.n,ts',hs2⟩ v):CallN P n g args st K :=
 ⟨CallOK.frame (fun o ho=>(Bool.or_eq_true_iff.1 hn).elim (fun h1=>.inl (Nat.lt_of_lt_of_le ho (Nat.le_of_ble_eq_true h1))) (fun h1=>by have:=Nat.eq_of_beq_eq_true h1; omega)) hst hm h (by rintro r h' ⟨rfl,rfl⟩; exact hm') fh fa fr (by rintro r h' ⟨rfl,rfl⟩; rw [hts,hs2e]; exact hK)⟩
end Go.Q
