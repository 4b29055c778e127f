import Derived.Test.YtmfhkipeapdfmaaGreatDoorFD
import Derived.Lib.Strings
namespace Go.Q
open Go
def restrictH (o:Oper) (s:St) (h:List AObj):St:=⟨s.n,(tmpsOf o).map (fun t=>(t,s.get t)),h⟩
def MO [KN:Know] (P:Program) (o:Oper) (s:St) (h:List AObj) (av:AV) (h':List AObj):Prop :=
 SOp P h.length o (fun st''=>st'' = { (restrictH o s h).put o.dst av with h:=h' }) (restrictH o s h)
structure TraceM [KN:Know] (P:Program) (ops:Array Oper) (mem:Nat → Bool) (B:Nat → List Nat) (st0:St) (tr:List AV) (hN:Nat → List AObj) (sF:St):Prop where
 h0:hN 0 = st0.h
 pure:∀ i,i < ops.size → mem i = false → hN (i + 1) = hN i
 chain:∀ a b,a < b → b < ops.size → mem a = true → mem b = true → a ∈ B b
 seq:∀ i o,ops.toList[i]? = some o → seqSt ops.toList tr (i + 1) st0 = (seqSt ops.toList tr i st0).put o.dst (tr.getD i .undef)
 get:∀ d,sF.get d = (seqSt ops.toList tr ops.toList.length st0).get d
 n:sF.n = st0.n
 h:sF.h = hN ops.size
 ops:∀ i o,ops.toList[i]? = some o → ∃ s:St,s.n = (seqSt ops.toList tr i st0).n ∧ (∀ d,s.get d = (seqSt ops.toList tr i st0).get d) ∧
  if mem i = true then o.guard = none ∧ MO P o s (hN i) (tr.getD i .undef) (hN (i + 1))
  else match o.guard with
   | none=>∀ c,c ≤ ops.size → (∀ m,mem m = true → m ∈ B i → m < c) → (∀ m,mem m = true → m < c → i ∉ B m) → MO P o s (hN c) (tr.getD i .undef) (hN c)
   | some (j,want)=>∃ d,(ops[j]?).bind (·.dst) = some d ∧ ((∃ b,s.get d = .lit (.bool b) ∧ ((b = want ∧ ∀ c,c ≤ ops.size → (∀ m,mem m = true → m ∈ B i → m < c) → (∀ m,mem m = true → m < c → i ∉ B m) → MO P o s (hN c) (tr.getD i .undef) (hN c)) ∨ (b ≠ want ∧ tr.getD i .undef = .tup []))) ∨ (s.get d = .tup [] ∧ tr.getD i .undef = .tup []))
theorem TraceM.stay [KN:Know] {P:Program} {ops:Array Oper} {mem:Nat → Bool} {B:Nat → List Nat} {st0:St} {tr:List AV} {hN:Nat → List AObj} {sF:St} (T:TraceM P ops mem B st0 tr hN sF) (c:Nat):∀ i,c ≤ i → i ≤ ops.size → (∀ m,c ≤ m → m < i → mem m = false) → hN i = hN c:=by
 intro i
 induction i with
 | zero=>intro h _ _; rw [show c = 0 by omega]
 | succ i ih =>
  intro h hs hm
  by_cases he:c = i + 1
  ·rw [he]
  ·rw [T.pure i (by omega) (hm i (by omega) (by omega))]
   exact ih (by omega) (by omega) (fun m h1 h2=>hm m h1 (by omega))
end Go.Q
namespace Go.Q
open Go
def below0 (k:Nat):AV → Bool
 | .ref o _ _=>Nat.blt o k
 | .ptr o _=>Nat.blt o k
 | .eptr o _ _=>Nat.blt o k
 | .undef=>true
 | .agg _=>false
 | .tup _=>false
 | v=>pureQ v
def belowQ (k:Nat):AV → Bool
 | .agg cs=>cs.all (below0 k)
 | .tup cs=>cs.all (below0 k)
 | v=>below0 k v
def belowH (k:Nat) (h:List AObj):Bool:=h.all fun ob=>match ob with | .box cs=>cs.all (belowQ k) | _=>true
end Go.Q
namespace Go.Q
open Go
def addQ (o:Oper):Bool:=match o.op with
 | .alloc _=>true
 | .box _ _=>true
 | .buildSlice _ _ _=>true
 | .makeSlice _ _ _=>true
 | _=>false
def insQ (o:Oper):Bool:=match o.op with
 | .move _=>true
 | .assign _=>true
 | .slice ..=>true
 | _=>false
def GoodH [KN:Know] (P:Program) (o:Oper) (s:St) (hm:List AObj) (av:AV):Prop :=
 (insQ o = true → ∀ h,MO P o s h av h) ∧ (insQ o = false → MO P o s hm av hm ∧ ((tmpsOf o).all fun t=>belowQ hm.length (s.get t)) = true ∧ belowH hm.length hm = true)
structure DNodeH [KN:Know] (P:Program) (o:Oper) (st:St) (hm:List AObj) (K:AV → Prop):Prop where
 ex:∃ av,(insQ o = true → ∀ h,dstep P h.length o (fun st''=>st'' = { (restrictH o st h).put o.dst av with h:=h }) (restrictH o st h)) ∧
  (insQ o = false → dstep P hm.length o (fun st''=>st'' = { (restrictH o st hm).put o.dst av with h:=hm }) (restrictH o st hm) ∧ ((tmpsOf o).all fun t=>belowQ hm.length (st.get t)) = true ∧ belowH hm.length hm = true) ∧ K av
structure MNodeB [KN:Know] (P:Program) (o:Oper) (st:St) (K:AV → List AObj → Prop):Prop where
 ex:∃ av h',dstep P st.h.length o (fun st''=>st'' = { (restrictH o st st.h).put o.dst av with h:=h' }) (restrictH o st st.h) ∧ (addQ o = true → ∃ e,h' = st.h ++ e) ∧ K av h'
theorem DNodeH.of [KN:Know] {P:Program} {o:Oper} {st:St} {hm:List AObj} {K:AV → Prop} (av:AV) (hq:insQ o = false) (h1:dstep P hm.length o (fun st''=>st'' = { (restrictH o st hm).put o.dst av with h:=hm }) (restrictH o st hm)) (h2:((tmpsOf o).all fun t=>belowQ hm.length (st.get t)) = true) (h3:belowH hm.length hm = true) (h4:K av):DNodeH P o st hm K:=⟨av,fun h=>by (rw [hq] at h; cases h),fun _=>⟨h1,h2,h3⟩,h4⟩
theorem MNodeB.of [KN:Know] {P:Program} {o:Oper} {st:St} {K:AV → List AObj → Prop} (av:AV) (h':List AObj) (h1:dstep P st.h.length o (fun st''=>st'' = { (restrictH o st st.h).put o.dst av with h:=h' }) (restrictH o st st.h)) (h2:addQ o = true → ∃ e,h' = st.h ++ e) (h3:K av h'):MNodeB P o st K:=⟨av,h',h1,h2,h3⟩
def OpMin [KN:Know] (P:Program) (ops:Array Oper) (ms cs:List Nat) (i:Nat) (hs:List (List AObj)) (o:Oper) (st:St) (av:AV) (h':List AObj):Prop :=
 ∃ s:St,s.n = st.n ∧ (∀ d,s.get d = st.get d) ∧
  if ms.contains i = true then o.guard = none ∧ MO P o s st.h av h' ∧ (addQ o = true → ∃ e,h' = st.h ++ e)
  else h' = st.h ∧ match o.guard with
   | none=>GoodH P o s (hs.getD (cs.getD i 0) []) av
   | some (j,want)=>∃ d,(ops[j]?).bind (·.dst) = some d ∧ ((∃ b,s.get d = .lit (.bool b) ∧ ((b = want ∧ GoodH P o s (hs.getD (cs.getD i 0) []) av) ∨ (b ≠ want ∧ av = .tup []))) ∨ (s.get d = .tup [] ∧ av = .tup []))
def TraceMin [KN:Know] (P:Program) (ops:Array Oper) (ms cs:List Nat):List Oper → Nat → List (List AObj) → St → List AV → List (List AObj) → St → Prop
 | [],_,hs,st,tr,HL,sF=>tr = [] ∧ HL = hs ∧ SameSt st sF
 | o :: r,i,hs,st,tr,HL,sF=>∃ av tr' h',tr = av :: tr' ∧ OpMin P ops ms cs i hs o st av h' ∧ TraceMin P ops ms cs r (i + 1) (hs ++ [h']) ((⟨st.n,st.ts,h'⟩:St).put o.dst av) tr' HL sF
theorem TraceMin.cong [KN:Know] {P:Program} {ops:Array Oper} {ms cs:List Nat}:∀ {l:List Oper} {i:Nat} {hs:List (List AObj)} {st st1:St} {tr:List AV} {HL:List (List AObj)} {sF:St},SameSt st st1 → TraceMin P ops ms cs l i hs st tr HL sF → TraceMin P ops ms cs l i hs st1 tr HL sF
 | [],_,_,_,_,_,_,_,hs,h=>⟨h.1,h.2.1,⟨fun d=>(hs.get d).symm.trans (h.2.2.get d),hs.n.symm.trans h.2.2.n,hs.h.symm.trans h.2.2.h⟩⟩
 | o :: r,i,hs,st,st1,tr,HL,sF,hS,⟨av,tr',h',e,⟨s,h1,h2,h3⟩,h4⟩=>by
  refine ⟨av,tr',h',e,⟨s,h1.trans hS.n,fun d=>(h2 d).trans (hS.get d),by rw [← hS.h]; exact h3⟩,TraceMin.cong ?_ h4⟩
  exact SameSt.put (s:=⟨st.n,st.ts,h'⟩) (t:=⟨st1.n,st1.ts,h'⟩) ⟨fun d=>hS.get d,hS.n,rfl⟩ _ _
theorem seq_zero (l:List Oper) (tr:List AV) (st:St):seqSt l tr 0 st = st:=by cases l <;> cases tr <;> rfl
end Go.Q
namespace Go.Q
open Go
end Go.Q
namespace Go.Q
open Go
def Le {α:Type} (a b:Option α):Prop:=∀ r,a = some r → b = some r
theorem Le.refl {α:Type} (a:Option α):Le a a:=fun _ h=>h
theorem Le.of {α:Type} {a b:Option α} {r:α} (h:Le a b) (e:a = some r):b = some r:=h r e
theorem Le.none {α:Type} (b:Option α):Le Option.none b:=fun _ h=>by cases h
def chkD {ρ:Type} (c:Prop) [h:Decidable c] (X:Option ρ):Option ρ:=bif @decide c h then X else none
theorem Le.chk {ρ:Type} {c:Prop} [Decidable c] {a b:Option ρ} (h:Le a b):Le (chkD c a) (chk c b):=by
 intro r e
 unfold chkD at e
 unfold Q.chk
 by_cases hc:c
 ·rw [if_pos hc]; rw [decide_eq_true hc] at e; exact h r e
 ·rw [decide_eq_false hc] at e; cases e
theorem Le.letk {α ρ:Type} {x y:α} {f g:α → Option ρ} (e:x = y) (h:∀ z,Le (f z) (g z)):Le (letk x f) (letk y g):=by
 subst e; exact h x
theorem Le.bind {α ρ:Type} {a b:Option α} {f g:α → Option ρ} (h:Le a b) (k:∀ z,Le (f z) (g z)):Le (a.bind f) (b.bind g):=by
 intro r e
 obtain ⟨y,e1,e2⟩:=bind_elim e
 rw [h y e1]; exact k y r e2
theorem Le.bif {ρ:Type} {t:Bool} {a b c d:Option ρ} (h:Le a b) (k:Le c d):Le (bif t then a else c) (bif t then b else d):=by
 cases t <;> assumption
theorem Le.map {α β:Type} {f:α → β} {a b:Option α} (h:Le a b):Le (a.map f) (b.map f):=by
 intro r e
 obtain ⟨y,e1,e2⟩:=map_elim e
 rw [h y e1]; exact congrArg some e2
theorem Le.iter {σ ρ:Type} {f g:σ → Option (σ ⊕ ρ)} (h:∀ s,Le (f s) (g s)):∀ (n:Nat) (s:σ),Le (iterO f n s) (iterO g n s)
 | 0,_=>Le.none _
 | n + 1,s=>by
  intro r e
  unfold iterO at e ⊢
  split at e
  ·rename_i s' hs; rw [h s _ hs]; exact Le.iter h n s' r e
  ·rename_i r' hs; rw [h s _ hs]; exact e
  ·cases e
theorem Le.loop {σ ρ:Type} {f g:σ → Option (σ ⊕ ρ)} {n:Nat} {s:σ} (h:∀ s,Le (f s) (g s)):Le (iterO f n s) (loopO g s) :=
 fun r e=>(@loopO_iff Know.none _ _ _ _ _).2 ⟨n,Le.iter h n s r e⟩
class Fc (α:Type) where
 fc:{β:Type} → α → (α → β) → β
 eq:∀ {β:Type} (x:α) (k:α → β),fc x k = k x
noncomputable instance:Fc Nat:=⟨fun n k=>Nat.rec (motive:=fun _=>_) (k 0) (fun m _=>k (m + 1)) n,fun n k=>by cases n <;> rfl⟩
noncomputable instance:Fc Bool:=⟨fun b k=>Bool.rec (motive:=fun _=>_) (k false) (k true) b,fun b k=>by cases b <;> rfl⟩
noncomputable instance:Fc Unit:=⟨fun _ k=>k (),fun _ _=>rfl⟩
noncomputable instance:Fc Int:=⟨fun x k=>Int.rec (motive:=fun _=>_) (fun n=>Fc.fc n fun n=>k (.ofNat n)) (fun n=>Fc.fc n fun n=>k (.negSucc n)) x,fun x k=>by cases x <;> simp only [Fc.eq]⟩
noncomputable instance:Fc UInt8:=⟨fun x k=>Fc.fc x.toNat fun n=>k (UInt8.ofNat n),fun x k=>by simp only [Fc.eq]; rw [UInt8.ofNat_toNat]⟩
noncomputable def fcL {α:Type} [Fc α] {β:Type} (l:List α):(List α → β) → β:=List.rec (motive:=fun _=>(List α → β) → β) (fun k=>k []) (fun a _ ih k=>Fc.fc a fun a=>ih fun r=>k (a :: r)) l
theorem fcL_eq {α:Type} [Fc α] {β:Type}:∀ (l:List α) (k:List α → β),fcL l k = k l
 | [],_=>rfl
 | a :: r,k=>by
  show (Fc.fc a fun a=>fcL r fun r=>k (a :: r)) = _
  rw [Fc.eq,fcL_eq r]
noncomputable instance {α:Type} [Fc α]:Fc (List α):=⟨fcL,fcL_eq⟩
noncomputable instance:Fc ByteArray:=⟨fun s k=>Fc.fc s.data.toList fun l=>k ⟨⟨l⟩⟩,fun s k=>by simp only [Fc.eq]⟩
noncomputable instance {α β:Type} [Fc α] [Fc β]:Fc (α × β):=⟨fun p k=>Prod.rec (motive:=fun _=>_) (fun a b=>Fc.fc a fun a=>Fc.fc b fun b=>k (a,b)) p,fun p k=>by obtain ⟨a,b⟩:=p; simp only [Fc.eq]⟩
noncomputable def letkF {α ρ:Type} [Fc α] (x:α) (X:α → Option ρ):Option ρ:=Fc.fc x X
noncomputable def bindF {α ρ:Type} [Fc α] (x:Option α) (X:α → Option ρ):Option ρ:=x.bind fun z=>Fc.fc z X
theorem Le.letkF {α ρ:Type} [Fc α] {x y:α} {f g:α → Option ρ} (e:x = y) (h:∀ z,Le (f z) (g z)):Le (Go.Q.letkF x f) (Go.Q.letk y g):=by
 subst e; unfold Go.Q.letkF Go.Q.letk; rw [Fc.eq]; exact h x
theorem Le.bindF {α ρ:Type} [Fc α] {a b:Option α} {f g:α → Option ρ} (h:Le a b) (k:∀ z,Le (f z) (g z)):Le (Go.Q.bindF a f) (b.bind g):=by
 unfold Go.Q.bindF
 refine Le.bind h (fun z=>?_)
 rw [Fc.eq]; exact k z
end Go.Q
namespace Go.Q
open Go
def fitQ (p:Nat → Bool):AV → Bool
 | .undef=>true
 | .ref o _ _=>p o
 | .ptr o _=>p o
 | .eptr o _ _=>p o
 | v=>pureQ v
def fitO (p:Nat → Bool):AObj → Bool
 | .box cs=>cs.all (fitQ p)
 | _=>true
theorem fit_rel [KN:Know] {I:Nat → Prop} {w:World} {μ μ':MM} {p:Nat → Bool} (hμ:∀ o,p o = true → μ'[o]? = μ[o]?) {v:AV} {x:Value} (hf:fitQ p v = true) (h:RelV I w μ v x):RelV I w μ' v x:=by
 have hp:∀ v,pureQ v = true → RelV I w μ v x → RelV I w μ' v x:=fun v hv hr=>pureQ_ok hv hr μ'
 have hloc:∀ o l,p o = true → μ.loc o = some l → μ'.loc o = some l:=fun o l ho hl=>MM.loc_some.2 ((hμ o ho).trans (MM.loc_some.1 hl))
 cases v with
 | undef=>exact .undef _ _
 | ref o off len =>
  have ho:p o = true:=hf
  cases h with
  | ref _ _ _ _ cap l hl hlen hcap=>exact .ref _ o off len cap l (hloc o l ho hl) hlen hcap
  | ref0 _ _ hl=>exact .ref0 _ o ((hμ o ho).trans hl)
  | refE _ _ _ l a hl=>exact .refE _ o off l a (hloc o l ho hl)
  | refX _ _ _ _ _ hl=>exact .refX _ o off len _ ((hμ o ho).trans hl)
 | ptr o j =>
  have ho:p o = true:=hf
  cases h with
  | ptrX _ _ _ _ hl=>exact .ptrX _ o j _ ((hμ o ho).trans hl)
  | ptr _ _ _ l hl=>exact .ptr _ o j l (hloc o l ho hl)
 | eptr o i j =>
  have ho:p o = true:=hf
  cases h with
  | eptrX _ _ _ _ _ hl=>exact .eptrX _ o i j _ ((hμ o ho).trans hl)
  | eptr _ _ _ _ l hl=>exact .eptr _ o i j l (hloc o l ho hl)
 | lit u=>exact hp _ hf h
 | nils=>exact hp _ hf h
 | agg cs=>exact hp _ hf h
 | tup cs=>exact hp _ hf h
 | vs s es=>exact hp _ hf h
 | iptr c=>exact hp _ hf h
 | fn f a b=>exact hp _ hf h
theorem fit_obj [KN:Know] {I I':Nat → Prop} {w w':World} {μ μ':MM} {p:Nat → Bool} (hμ:∀ o,p o = true → μ'[o]? = μ[o]?) (hI:∀ b,I b → I' b) (hw:∀ b,I b → w'.heap[b]? = w.heap[b]?) {ob:AObj} {x:Slot} (hf:fitO p ob = true)
  (hl:∀ l,x = .at l → w'.heap[l.block]? = w.heap[l.block]?) (h:RelO I w μ ob x):RelO I' w' μ' ob x:=by
 cases h with
 | dead=>exact .dead
 | arr0 s=>exact .arr0 s
 | arr s es l val hse hb hsz hn hc hv =>
  exact .arr s es l val hse (hb.same (hl l rfl)) hsz hn (fun i j hi hj=>by rw [cell_same (hl l rfl)]; exact hc i j hi hj) (fun i hi j hj=>(hv i hi j hj).mono hI hw)
 | box cs l val hb hsz hc hv =>
  exact .box cs l val (hb.same (hl l rfl)) hsz (fun j hj=>by rw [cell_same (hl l rfl)]; exact hc j hj) (fun j hj=>(fit_rel hμ (List.all_eq_true.1 hf _ (List.getElem_mem hj)) (hv j hj)).mono hI hw)
theorem RelH.lt [KN:Know] {I:Nat → Prop} {μ:MM} {h:List AObj} {w:World} (H:RelH I μ h w) {b:Nat} (hb:μ.owns b):b < w.heap.size:=by
 obtain ⟨o,l,hl,rfl⟩:=hb
 have ho:=MM.loc_some.1 hl
 have hlt:o < μ.length:=(List.getElem?_eq_some_iff.1 ho).1
 obtain ⟨ob,hob⟩:∃ ob,h[o]? = some ob:=⟨_,List.getElem?_eq_getElem (by rw [← H.len]; exact hlt)⟩
 obtain ⟨c,T,lo,hi,e,_⟩:=(H.objs o ob _ hob ho).blockOK
 rcases Nat.lt_or_ge l.block w.heap.size with h1 | h1
 ·exact h1
 ·rw [Array.getElem?_eq_none h1] at e; cases e
end Go.Q
