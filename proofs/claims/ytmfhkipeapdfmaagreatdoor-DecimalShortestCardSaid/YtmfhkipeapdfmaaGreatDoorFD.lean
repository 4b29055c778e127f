import Derived.Test.YtmfhkipeapdfmaaGreatDoorFC
import Derived.Below
import Derived.Laws.Externs
namespace Go.Q
open Go
structure Nm {α:Type} (x:α) (K:α → Prop):Prop where
 ex:∃ y,y = x ∧ K y
theorem Nm.get {α:Type} {x:α} {K:α → Prop} (h:Nm x K):K x:=by
 obtain ⟨y,e,h⟩:=h.ex
 rw [← e]; exact h
def abinN (P:Program) (op:BinOp) (t:TypeId) (x y:AV) (K:AV → Prop):Prop :=
 match x,y with
 | .lit (.int k a),.lit (.int k' b) =>
  match op with
  | .add=>ifK (k = k') (Nm (k.wrap (a + b)) (fun y=>K (.lit (.int k y))))
  | .sub=>ifK (k = k') (Nm (k.wrap (a - b)) (fun y=>K (.lit (.int k y))))
  | .mul=>ifK (k = k') (Nm (k.wrap (a * b)) (fun y=>K (.lit (.int k y))))
  | .quo=>ifK (k = k') (Side (b ≠ 0) (Nm (k.wrap (a.tdiv b)) (fun y=>K (.lit (.int k y)))))
  | .rem=>ifK (k = k') (Side (b ≠ 0) (Nm (a.tmod b) (fun y=>K (.lit (.int k y)))))
  | .eql=>ifK (k = k') (Nm (a == b) (fun y=>K (.lit (.bool y))))
  | .neq=>ifK (k = k') (Nm (a != b) (fun y=>K (.lit (.bool y))))
  | .lss=>ifK (k = k') (Nm (decide (a < b)) (fun y=>K (.lit (.bool y))))
  | .leq=>ifK (k = k') (Nm (decide (a ≤ b)) (fun y=>K (.lit (.bool y))))
  | .gtr=>ifK (k = k') (Nm (decide (a > b)) (fun y=>K (.lit (.bool y))))
  | .geq=>ifK (k = k') (Nm (decide (a ≥ b)) (fun y=>K (.lit (.bool y))))
  | .shl=>Side (0 ≤ b) (Nm (k.wrap (a * 2 ^ (min b.toNat k.bits))) (fun y=>K (.lit (.int k y))))
  | .shr=>Side (0 ≤ b) (Nm (a.fdiv (2 ^ (min b.toNat k.bits))) (fun y=>K (.lit (.int k y))))
  | .and=>ifK (k = k') (Nm (k.wrap (BitVec.ofInt k.bits a &&& BitVec.ofInt k.bits b).toNat) (fun y=>K (.lit (.int k y))))
  | .or=>ifK (k = k') (Nm (k.wrap (BitVec.ofInt k.bits a ||| BitVec.ofInt k.bits b).toNat) (fun y=>K (.lit (.int k y))))
  | .xor=>ifK (k = k') (Nm (k.wrap (BitVec.ofInt k.bits a ^^^ BitVec.ofInt k.bits b).toNat) (fun y=>K (.lit (.int k y))))
  | .andNot=>ifK (k = k') (Nm (k.wrap (BitVec.ofInt k.bits a &&& ~~~ BitVec.ofInt k.bits b).toNat) (fun y=>K (.lit (.int k y))))
 | .lit (.string a),.lit (.string b) =>
  match op with
  | .add=>Side (((a.size + b.size:Nat):Int) ≤ 9223372036854775807) (Nm (a ++ b) (fun y=>K (.lit (.string y))))
  | .eql=>Nm (a.toList == b.toList) (fun y=>K (.lit (.bool y)))
  | .neq=>Nm (!(a.toList == b.toList)) (fun y=>K (.lit (.bool y)))
  | _=>False
 | .lit (.bool a),.lit (.bool b) =>
  match op with
  | .eql=>ifK (isBool P t = true) (Nm (a == b) (fun y=>K (.lit (.bool y))))
  | .neq=>ifK (isBool P t = true) (Nm (!(a == b)) (fun y=>K (.lit (.bool y))))
  | _=>False
 | .agg cs,.agg ds =>
  match op with
  | .eql=>EqS P t cs ds (fun r=>Nm r fun v=>K (.lit (.bool v)))
  | .neq=>EqS P t cs ds (fun r=>Nm (!r) fun v=>K (.lit (.bool v)))
  | _=>False
 | _,_=>False
theorem arith_of [_KN:Know] {k:IntKind} {x:Int} {K:Int → Prop} (h:Nm (k.wrap x) K):Arith k x K:=⟨⟨_,rfl,h.get⟩⟩
theorem ifK_mono [_KN:Know] {c:Prop} [Decidable c] {A B:Prop} (h:ifK c A) (f:A → B):ifK c B:=by
 obtain ⟨hc,h⟩:=ifK_elim h
 exact ifK_intro hc (f h)
theorem eqKs_mono [KN:Know]:∀ {ks:List EK} {cs ds:List AV} {K K':Bool → Prop},eqKs ks cs ds K → (∀ r,K r → K' r) → eqKs ks cs ds K':=by
 intro ks cs ds K K' h hk
 induction ks,cs,ds,K using eqKs.induct generalizing K' <;> unfold eqKs at h ⊢ <;> first | exact hk _ h | exact h.elim | skip
 ·rename_i ih; exact ih h (fun r=>hk _)
 ·rename_i ih; exact ifK_mono h (fun h=>ih h (fun r=>hk _))
 ·rename_i ih; exact ih h (fun r=>hk _)
 ·rename_i h1 h2 h3 h4
  split at h
  ·exact absurd rfl h1
  ·exact absurd rfl (h2 _ _ _ _ _ rfl rfl)
  ·exact absurd rfl (h3 _ _ _ _ _ _ _ rfl rfl)
  ·exact absurd rfl (h4 _ _ _ _ _ rfl rfl)
  ·exact h.elim
theorem abinN_abin2 [KN:Know] {P:Program} {op:BinOp} {t:TypeId} {x y:AV} {K:AV → Prop} (h:abinN P op t x y K):abin2 P op t x y K:=by
 unfold abinN at h
 split at h
 ·unfold abin2 abin
  cases op <;> dsimp only at h ⊢
  case add=>exact ifK_mono h arith_of
  case sub=>exact ifK_mono h arith_of
  case mul=>exact ifK_mono h arith_of
  case quo=>exact ifK_mono h (fun h=>⟨h.c,h.k.get⟩)
  case rem=>exact ifK_mono h (fun h=>⟨h.c,h.k.get⟩)
  case shl=>exact ⟨h.c,h.k.get⟩
  case shr=>exact ⟨h.c,h.k.get⟩
  all_goals exact ifK_mono h Nm.get
 ·unfold abin2 abin
  cases op <;> dsimp only at h ⊢ <;> first | exact ⟨h.c,h.k.get⟩ | exact h.get | exact h
 ·unfold abin2 abin
  cases op <;> dsimp only at h ⊢ <;> first | exact ifK_mono h Nm.get | exact h
 ·unfold abin2
  cases op <;> dsimp only at h ⊢
  case eql=>obtain ⟨ks,h1,h2⟩:=h.ex; exact ⟨ks,h1,eqKs_mono h2 (fun _ h=>h.get)⟩
  case neq=>obtain ⟨ks,h1,h2⟩:=h.ex; exact ⟨ks,h1,eqKs_mono h2 (fun _ h=>h.get)⟩
  all_goals exact h
 ·exact h.elim
def aunN (op:UnOp) (x:AV) (K:AV → Prop):Prop :=
 match op,x with
 | .neg,.lit (.int k a)=>Nm (k.wrap (0 - a)) (fun y=>K (.lit (.int k y)))
 | .not,.lit (.bool b)=>Nm (!b) (fun y=>K (.lit (.bool y)))
 | _,_=>False
theorem aunN_aun [_KN:Know] {op:UnOp} {x:AV} {K:AV → Prop} (h:aunN op x K):aun op x K:=by
 unfold aunN at h
 unfold aun
 split at h
 ·exact h.get
 ·exact h.get
 ·exact h.elim
theorem asl_mono {lo hi:Option AV} {n:Nat} {K K':Nat → Nat → Prop} (h:asl lo hi n K) (f:∀ l r,K l r → K' l r):asl lo hi n K':=by
 unfold asl at h ⊢
 split at h
 ·exact f _ _ h
 ·exact ⟨h.c,f _ _ h.k⟩
 ·exact ⟨h.c,f _ _ h.k⟩
 ·exact ⟨h.c,f _ _ h.k⟩
 ·exact h.elim
def asliceN (P:Program) (t:TypeId) (st:St) (x:AV) (lo hi:Option AV) (K:AV → Prop):Prop :=
 match x with
 | .lit (.string s)=>ifK (isStr P t = true) (asl lo hi s.size (fun l r=>Nm (s.extract l r) fun y=>K (.lit (.string y))))
 | .vs s es=>(match sliceTo P t with
  | some (_,s')=>ifK (s' = s) (asl lo hi es.length (fun l r=>Nm ((es.drop l).take (r - l)) fun y=>K (.vs s y)))
  | none=>False)
 | .ref k off len=>(match sliceTo P t,st.h[k]? with
  | some (_,s'),some (.arr s _)=>ifK (s' = s) (asl lo hi len (fun l r=>Nm (off + l,r - l) fun y=>K (.ref k y.1 y.2)))
  | _,_=>False)
 | _=>False
theorem asliceN_ok [KN:Know] {P:Program} {t:TypeId} {st:St} {x:AV} {lo hi:Option AV} {K:AV → Prop} (h:asliceN P t st x lo hi K):asliceOp P t st x lo hi K:=by
 unfold asliceN at h
 unfold asliceOp
 split at h
 ·exact ifK_mono h (fun h=>asl_mono h (fun _ _ h=>h.get))
 ·split at h
  ·rename_i e; simp only [e]; exact ifK_mono h (fun h=>asl_mono h (fun _ _ h=>h.get))
  ·exact h.elim
 ·split at h
  ·rename_i e1 e2; simp only [e1,e2]; exact ifK_mono h (fun h=>asl_mono h (fun _ _ h=>h.get))
  ·exact h.elim
 ·exact h.elim
def aindexN (P:Program) (t:TypeId) (st:St) (x y:AV) (K:AV → Prop):Prop :=
 match y with
 | .lit (.int _ i)=>(match x with
  | .vs s es=>(match sliceTo P t with
   | some (_,s')=>ifK (s' = s) (Side (0 ≤ i) (At es i.toNat fun e=>K (.iptr e)))
   | none=>False)
  | .ref k off len=>(match sliceTo P t,st.h[k]? with
   | some (_,s'),some (.arr s _)=>ifK (s' = s) (Side (0 ≤ i ∧ i < len) (Nm (off + i.toNat) fun y=>K (.eptr k y 0)))
   | _,_=>False)
  | _=>False)
 | _=>False
theorem aindexN_ok [KN:Know] {P:Program} {t:TypeId} {st:St} {x y:AV} {K:AV → Prop} (h:aindexN P t st x y K):aindexAddr P t st x y K:=by
 unfold aindexN at h
 unfold aindexAddr
 split at h
 ·split at h
  ·exact h
  ·split at h
   ·rename_i e1 e2; simp only [e1,e2]; exact ifK_mono h (fun h=>⟨h.c,h.k.get⟩)
   ·exact h.elim
  ·exact h.elim
 ·exact h.elim
def aconvN (P:Program) (s t:TypeId) (st:St) (x:AV) (K:St → AV → Prop):Prop :=
 match x with
 | .lit (.int _ i)=>(match P.underlying s,P.underlying t with
  | some _,some (.int k)=>Nm (k.wrap i) fun y=>K st (.lit (.int k y))
  | _,_=>False)
 | .lit (.string b)=>(match P.underlying t with
  | some .string=>(match P.underlying s with
   | some _=>K st (.lit (.string b))
   | none=>False)
  | some (.slice e)=>(match P.underlying s with
   | some .string=>ifK (isByte P e = true) (Nm (b.data.toList.map fun c=>.lit (.int .u8 c.toNat)) fun es=>match st with | ⟨n,ts,h⟩=>K ⟨n,ts,h ++ [.arr 1 es]⟩ (.ref h.length 0 es.length))
   | _=>False)
  | _=>False)
 | x=>ifK (usable st.h x = true ∧ (alen x).isSome = true)
  (match P.underlying s,P.underlying t with
  | some (.slice e),some .string=>ifK (isByte P e = true) (srcOf st x (fun xs=>BytesN xs fun ns=>Nm (ofInts ns) fun y=>K st (.lit (.string y))) 1)
  | _,_=>False)
theorem srcOf_mono [KN:Know] {st:St} {x:AV} {s:Nat} {K K':List AV → Prop} (h:srcOf st x K s) (f:∀ l,K l → K' l):srcOf st x K' s:=by
 unfold srcOf at h ⊢
 split at h
 ·exact f _ h
 ·exact ifK_mono h (fun h=>⟨h.c,f _ h.k⟩)
 ·split at h
  ·exact ifK_mono h (fun h=>⟨h.c,f _ h.k⟩)
  ·exact h.elim
 ·exact ifK_mono h (f _)
 ·exact h.elim
theorem baseOf_mono [KN:Know] {st:St} {x:AV} {s:Nat} {K K':Option Nat → List AV → Prop} (h:baseOf st x K s) (f:∀ k l,K k l → K' k l):baseOf st x K' s:=by
 unfold baseOf at h ⊢
 split at h
 ·exact f _ _ h
 ·split at h
  ·exact ifK_mono h (fun h=>⟨h.c,f _ _ h.k⟩)
  ·exact h.elim
 ·exact h.elim
theorem aconvN_ok [KN:Know] {P:Program} {s t:TypeId} {st:St} {x:AV} {K:St → AV → Prop} (h:aconvN P s t st x K):aconvert P s t st x K:=by
 unfold aconvN at h
 unfold aconvert
 split at h
 ·split at h
  ·rename_i e1 e2; simp only [e1,e2]; exact h.get
  ·exact h.elim
 ·rename_i b
  split at h
  ·rename_i ht
   split at h
   ·rename_i hs
    left
    rw [hs,ht]
    exact h
   ·exact h.elim
  ·rename_i e ht
   split at h
   ·rename_i hs
    right
    rw [hs,ht]
    refine ifK_mono h (fun h=>?_)
    have h:=h.get
    have e:(b.data.toList.map fun c=>AV.lit (.int .u8 c.toNat)).length = b.size:=by
     rw [List.length_map,Array.length_toList]; rfl
    cases st
    simp only at h
    rw [e] at h
    exact h
   ·exact h.elim
  ·exact h.elim
 ·rename_i h1 h2
  split
  ·exact absurd rfl (h1 _ _)
  ·exact absurd rfl (h2 _)
  ·refine ifK_mono h (fun h=>?_)
   split at h
   ·rename_i e1 e2
    simp only [e1,e2]
    exact ifK_mono h (fun h=>srcOf_mono h (fun l h=>by
     obtain ⟨ns,e,h⟩:=h.ex
     exact ⟨ns,e,h.get⟩))
   ·exact h.elim
def astoreN (P:Program) (t:TypeId) (st:St) (x v:AV) (K:List AObj → Prop):Prop :=
 ifK (cellsQ st.h v = true ∧ sizeQ P t = some v.cells.length)
 (match x with
 | .ptr k j=>(match st.h[k]? with
  | some (.box cs)=>ifK (j + v.cells.length ≤ cs.length) (Nm (splice cs j v.cells) fun cs'=>K (st.h.set k (.box cs')))
  | _=>False)
 | .eptr k i j=>(match st.h[k]? with
  | some (.arr s es)=>ifK (pureQ v = true) (At es i fun e=>Side (j + v.cells.length ≤ e.cells.length ∧ (reform e (splice e.cells j v.cells)).cells = splice e.cells j v.cells)
    (Nm (es.set i (reform e (splice e.cells j v.cells))) fun es'=>K (st.h.set k (.arr s es'))))
  | _=>False)
 | _=>False)
theorem astoreN_ok [KN:Know] {P:Program} {t:TypeId} {st:St} {x v:AV} {K:List AObj → Prop} (h:astoreN P t st x v K):astore P t st x v K:=by
 unfold astoreN at h
 unfold astore
 refine ifK_mono h (fun h=>?_)
 split at h
 ·split at h
  ·rename_i e; simp only [e]; exact ifK_mono h Nm.get
  ·exact h.elim
 ·split at h
  ·rename_i e; simp only [e]
   refine ifK_mono h (fun h=>?_)
   obtain ⟨e,he,h⟩:=h.ex
   exact ⟨e,he,h.c,h.k.get⟩
  ·exact h.elim
 ·exact h.elim
def St.setK (st:St) (f:List AObj → List AObj) (d:Option Nat) (v:List AObj → AV) (K:St → Prop):Prop:=match st with | ⟨n,ts,h⟩=>(⟨n,ts,f h⟩:St).putK d (v h) K
theorem St.setK_eq (st:St) (f:List AObj → List AObj) (d:Option Nat) (v:List AObj → AV) (K:St → Prop):st.setK f d v K = ({ st with h:=f st.h }:St).putK d (v st.h) K:=by cases st; rfl
def bstep [KN:Know] (P:Program) (n:Nat) (o:Oper) (K:St → Prop) (st:St):Prop :=
 match o.op with
 | .move x=>st.putK o.dst (aeval st x) K
 | .assign x=>st.putK o.dst (aeval st x) K
 | .pick c x y=>(match aeval st c with
  | .lit (.bool b)=>ifB b (st.putK o.dst (aeval st x) K) (st.putK o.dst (aeval st y) K)
  | _=>False)
 | .binOp op t x y _=>abinN P op t (aeval st x) (aeval st y) (fun v=>st.putK o.dst v K)
 | .unOp op _ x=>aunN op (aeval st x) (fun v=>st.putK o.dst v K)
 | .extract x i=>(match aeval st x with
  | .tup vs=>(match vs[i]? with | some v=>st.putK o.dst v K | none=>False)
  | _=>False)
 | .field t x f=>(match aeval st x with
  | .agg cs=>(match afield P t cs f with | some v=>st.putK o.dst v K | none=>False)
  | _=>False)
 | .index t x y=>(match aeval st x,aeval st y with
  | .lit (.string s),.lit (.int _ i)=>ifK (isStr P t = true) (Side (0 ≤ i ∧ i < s.size) (Nm (bt s i) fun y=>st.putK o.dst (.lit (.int .u8 y)) K))
  | _,_=>False)
 | .slice t x lo hi none=>asliceN P t st (aeval st x) (lo.map (aeval st)) (hi.map (aeval st)) (fun v=>st.putK o.dst v K)
 | .indexAddr t x y=>aindexN P t st (aeval st x) (aeval st y) (fun v=>st.putK o.dst v K)
 | .fieldAddr t x f=>(match aplace P t f with
  | some off=>(match aeval st x with
   | .ptr k j=>ifK (alive st.h k = true) (st.putK o.dst (.ptr k (j + off)) K)
   | .eptr k i j=>ifK (alive st.h k = true) (st.putK o.dst (.eptr k i (j + off)) K)
   | .iptr (.agg cs)=>(match aifield P t cs f with | some c=>st.putK o.dst (.iptr c) K | none=>False)
   | _=>False)
  | none=>False)
 | .load t x=>aload P t st (aeval st x) (fun v=>st.putK o.dst v K)
 | .store t x y=>astoreN P t st (aeval st x) (aeval st y) (fun h=>st.setK (fun _=>h) o.dst (fun _=>.undef) K)
 | .alloc t=>(match azero P t with
  | some cs=>Nm cs fun cs=>st.setK (fun h=>h ++ [.box cs]) o.dst (fun h=>.ptr h.length 0) K
  | none=>False)
 | .box _ x=>ifK (cellsQ st.h (aeval st x) = true) (Nm (aeval st x).cells fun cs=>st.setK (fun h=>h ++ [.box cs]) o.dst (fun h=>.ptr h.length 0) K)
 | .build t parts=>(match abuild P t (parts.toList.map fun p=>(p.1,aeval st p.2)) with
  | some cs=>ifK ((parts.toList.all fun p=>cellsQ st.h (aeval st p.2)) = true) (Nm cs fun cs=>st.putK o.dst (.agg cs) K)
  | none=>False)
 | .buildSlice t len parts=>(match P.underlying t with
  | some (.slice e)=>(match elemInfo P e with
   | some E=>ifK (len * E.size ≤ 16777216 ∧ (parts.toList.all fun p=>cellsQ [] (aeval st p.2) && pureQ (aeval st p.2)) = true)
    (match setElems E.size (List.replicate len E.zero) (parts.toList.map fun p=>(p.1,aeval st p.2)) with
    | some es=>Nm es fun es=>ifK (es.length = len) (st.setK (fun h=>h ++ [.arr E.size es]) o.dst (fun h=>.ref h.length 0 es.length) K)
    | none=>False)
   | none=>False)
  | _=>False)
 | .makeFunc f first captured=>st.putK o.dst (.fn f (first.toList.map (aeval st)) (captured.toList.map (aeval st))) K
 | .makeSlice t x y=>(match P.underlying t,aeval st x,aeval st y with
  | some (.slice e),.lit (.int _ l),.lit (.int _ c)=>(match elemInfo P e with
   | some E=>Side (0 ≤ l ∧ l ≤ c ∧ c ≤ 9223372036854775807 ∧ E.bytes * c ≤ 140737488355328) (Nm (List.replicate l.toNat E.zero) fun es=>st.setK (fun h=>h ++ [.arr E.size es]) o.dst (fun h=>.ref h.length 0 es.length) K)
   | none=>False)
  | _,_,_=>False)
 | .convert s t x=>aconvN P s t st (aeval st x) (fun st' v=>st'.putK o.dst v K)
 | .nilCheck x=>(match aeval st x with
  | .ptr k j=>ifK (alive st.h k = true) (st.putK o.dst (.ptr k j) K)
  | .eptr k i j=>ifK (alive st.h k = true) (st.putK o.dst (.eptr k i j) K)
  | .iptr c=>st.putK o.dst (.iptr c) K
  | _=>False)
 | .call { callee:=.builtin .len,args:=⟨[x]⟩,argTypes:=⟨[t]⟩ }=>(match aeval st x with
  | .lit (.string s)=>ifK (isStr P t = true) (Nm (s.size:Int) fun y=>st.putK o.dst (.lit (.int .i64 y)) K)
  | v=>(match sliceTo P t,alen v with
   | some _,some m=>ifK (usable st.h v = true) (Nm (m:Int) fun y=>st.putK o.dst (.lit (.int .i64 y)) K)
   | _,_=>False))
 | .call { callee:=.builtin .max,args:=⟨[x,y]⟩,.. }=>(match aeval st x,aeval st y with
  | .lit (.int k a),.lit (.int _ b)=>Nm (if b > a then b else a) fun y=>st.putK o.dst (.lit (.int k y)) K
  | _,_=>False)
 | .call { callee:=.builtin .min,args:=⟨[x,y]⟩,.. }=>(match aeval st x,aeval st y with
  | .lit (.int k a),.lit (.int _ b)=>Nm (if b < a then b else a) fun y=>st.putK o.dst (.lit (.int k y)) K
  | _,_=>False)
 | .call { callee:=.builtin .append,args:=⟨[x,y]⟩,argTypes:=⟨[t,u]⟩ }=>(match P.underlying t with
  | some (.slice e)=>(match elemInfo P e with
   | some E=>ifK (appendable P u = true) (baseOf st (aeval st x) (fun ko bs=>srcOf st (aeval st y) (fun xs =>
     Side ((bs.length + xs.length) * E.bytes ≤ 140737488355328 ∧ bs.length + xs.length ≤ 9223372036854775807)
      (Nm (bs ++ xs) fun es=>st.setK (fun h=>killQ h ko ++ [.arr E.size es]) o.dst (fun h=>.ref h.length 0 es.length) K)) E.size) E.size)
   | none=>False)
  | _=>False)
 | .call { callee:=.value f,args,.. }=>(match aeval st f with
  | .fn (.func g) first captured=>CallN P n g (first ++ args.toList.map (aeval st) ++ captured) st (fun st' r=>st'.putK o.dst r K)
  | _=>False)
 | _=>False
theorem bstep_astep [KN:Know] {P:Program} {n:Nat} {o:Oper} {K:St → Prop} {st:St} (h:bstep P n o K st):astep P n o K st:=by
 unfold bstep at h
 simp only [St.setK_eq] at h
 unfold astep
 split at h
 case h_1 x ho=>rw [ho]; exact h
 case h_2 x ho=>rw [ho]; exact h
 case h_3 c x y ho=>rw [ho]; exact h
 case h_4 op t x y u ho=>rw [ho]; exact abinN_abin2 h
 case h_5 op t x ho=>rw [ho]; exact aunN_aun h
 case h_6 x i ho=>rw [ho]; exact h
 case h_7 t x f ho=>rw [ho]; exact h
 case h_8 t x y ho =>
  rw [ho]
  split at h
  ·rename_i e1 e2
   simp only [e1,e2]
   exact ifK_mono h (fun h=>⟨h.c,h.k.get⟩)
  ·exact h.elim
 case h_9 t x lo hi ho=>rw [ho]; exact asliceN_ok h
 case h_10 t x y ho=>rw [ho]; exact aindexN_ok h
 case h_11 t x f ho=>rw [ho]; exact h
 case h_12 t x ho=>rw [ho]; exact h
 case h_13 t x y ho=>rw [ho]; exact astoreN_ok h
 case h_14 t ho =>
  rw [ho]
  split at h
  ·rename_i e; simp only [e]; exact h.get
  ·exact h.elim
 case h_15 t x ho=>rw [ho]; exact ifK_mono h Nm.get
 case h_16 t parts ho =>
  rw [ho]
  split at h
  ·rename_i e; simp only [e]; exact ifK_mono h Nm.get
  ·exact h.elim
 case h_17 t len parts ho =>
  rw [ho]
  split at h
  ·rename_i e hu
   simp only [hu]
   split at h
   ·rename_i E hE
    simp only [hE]
    refine ifK_mono h (fun h=>?_)
    split at h
    ·rename_i es hes
     simp only [hes]
     have h:=ifK_elim h.get
     rw [← h.1]
     exact h.1 ▸ h.2
    ·exact h.elim
   ·exact h.elim
  ·exact h.elim
 case h_18 f first captured ho=>rw [ho]; exact h
 case h_19 t x y ho =>
  rw [ho]
  split at h
  ·rename_i e k l k' c hu hx hy
   simp only [hu,hx,hy]
   split at h
   ·rename_i E hE
    simp only [hE]
    refine ⟨h.c,?_⟩
    have h:=h.k.get
    rwa [List.length_replicate] at h
   ·exact h.elim
  ·exact h.elim
 case h_20 s t x ho=>rw [ho]; exact aconvN_ok h
 case h_21 x ho=>rw [ho]; exact h
 case h_22 x t ho =>
  rw [ho]
  simp only
  split at h
  ·rename_i s hx
   simp only [hx]
   exact ifK_mono h Nm.get
  ·rename_i hx
   split at h
   ·rename_i es m hs hm
    split
    ·rename_i s' hx'
     exact absurd hx' (hx _)
    ·simp only [hs,hm]
     exact ifK_mono h Nm.get
   ·exact h.elim
 case h_23 x y _ ho =>
  rw [ho]
  simp only
  split at h
  ·rename_i k a k' b hx hy
   simp only [hx,hy]
   exact h.get
  ·exact h.elim
 case h_24 x y _ ho =>
  rw [ho]
  simp only
  split at h
  ·rename_i k a k' b hx hy
   simp only [hx,hy]
   exact h.get
  ·exact h.elim
 case h_25 x y t u ho =>
  rw [ho]
  simp only
  split at h
  ·rename_i e hu
   simp only [hu]
   split at h
   ·rename_i E hE
    simp only [hE]
    refine ifK_mono h (fun h=>baseOf_mono h (fun ko bs h=>srcOf_mono h (fun xs h=>⟨h.c,?_⟩)))
    have h:=h.k.get
    rwa [List.length_append] at h
   ·exact h.elim
  ·exact h.elim
 case h_26 f args ts ho=>rw [ho]; exact h
 case h_27=>exact h.elim
def Sees [KN:Know] (n:Nat) (s s':St):Prop:=∀ I μ a w,Rel I μ s a w → n ≤ μ.length → ∃ I' μ',Rel I' μ' s' a w ∧ Step I μ w I' μ' w ∧ Pre n μ μ'
theorem Sees.of [KN:Know] {n:Nat} {s s':St} {keep frz:List Nat} {m:Nat} (W:Weak n s s' keep frz m):Sees n s s':=fun I μ a w R hn=>by
 obtain ⟨R',S,p⟩:=W.rel R hn
 exact ⟨_,_,R',S,p⟩
theorem SWP.sees [KN:Know] {P:Program} {n:Nat} {c:Code} {Q:Exit → St → Prop} {st st':St} (W:Sees n st st') (h:SWP P n c Q st'):SWP P n c Q st:=by
 intro I μ a w R hn
 obtain ⟨I1,μ1,R1,S1,p1⟩:=W I μ a w R hn
 exact wp_mono (h _ _ a w R1 p1.1) fun _ _ _ hp=>hp.trans S1 p1
structure BackS [KN:Know] (n:Nat) (s:St) (T:St → Prop):Prop where
 ex:∃ s',Sees n s s' ∧ T s'
theorem SWP.cutS [KN:Know] {P:Program} {n:Nat} {x y:Code} {Q:Exit → St → Prop} {st:St} (Mid:St → Prop) (h:SWP P n x (thenQ (fun s=>BackS n s Mid) Q) st) (h2:∀ s,Mid s → SWP P n y Q s):SWP P n (.seq x y) Q st :=
 SWP.seq (h.mono fun e s hq=>by
  cases e with
  | normal =>
   obtain ⟨s',W,hm⟩:=hq
   exact SWP.sees W (h2 s' hm)
  | _=>exact hq)
theorem SWP.loopS [KN:Know] {P:Program} {n:Nat} {c:Code} {Q:Exit → St → Prop} {st:St} (Inv:Nat → St → Prop) (h0:BackS n st (fun s=>∃ k,Inv k s))
  (round:∀ k s,Inv k s → SWP P n c (thenQ (fun s'=>BackS n s' fun s''=>∃ k',k' < k ∧ Inv k' s'') Q) s):SWP P n (.loop c) Q st:=by
 obtain ⟨s0,W,k,hI⟩:=h0
 refine SWP.loop (fun k s=>∃ s',Sees n s s' ∧ Inv k s') ⟨s0,W,hI⟩ ?_
 rintro k s ⟨s',W,hI⟩
 refine SWP.sees W ((round k s' hI).mono fun e s2 h=>?_)
 cases e with
 | normal =>
  obtain ⟨s3,W3,k',hlt,hI3⟩:=h
  exact ⟨k',hlt,s3,W3,hI3⟩
 | _=>exact h
theorem SOp.sees [KN:Know] {P:Program} {n:Nat} {o:Oper} {N:St → Prop} {st st':St} (W:Sees n st st') (h:SOp P n o N st'):SOp P n o N st:=by
 intro I μ a w R hn next Q hk
 obtain ⟨I1,μ1,R',S,p⟩:=W I μ a w R hn
 exact h _ _ a w R' p.1 next Q (fun I' μ' s v w' hN Rr SS pp=>hk _ _ _ _ _ hN Rr (S.trans SS) (p.trans pp))
theorem SOp.binLit [KN:Know] {P:Program} {n:Nat} {o:Oper} {N:St → Prop} {st:St} {op:BinOp} {t u:TypeId} {x y:Operand} (ho:o.op = .binOp op t x y u) {a b r:Value} (hx:aeval st x = .lit a) (hy:aeval st y = .lit b)
  (h:∀ w,(do eqGuard op t x y a b; binOp op t a b:Sem Value).run P w = .ok r w) (hN:N (st.put o.dst (.lit r))):SOp P n o N st:=by
 refine SOp.pure (fun I μ ac w R=>⟨r,?_,.lit _ _⟩) hN
 have e1:=R.eval x; rw [hx] at e1
 have e2:=R.eval y; rw [hy] at e2
 have h1:=h w
 simp only [Sem.run_bind] at h1
 simp only [execOp,ho,Sem.run_bind,e1.lit_eq,e2.lit_eq]
 rw [h1]; rfl
def ifaceQ (P:Program) (t:TypeId):Bool:=match P.underlying t with | some (.interface _)=>true | _=>false
theorem ifaceQ_ok {P:Program} {t:TypeId} (h:ifaceQ P t = true):∃ ms,P.underlying t = some (.interface ms):=by
 unfold ifaceQ at h
 split at h
 ·exact ⟨_,by assumption⟩
 ·cases h
def isConstQ:Operand → Bool
 | .const _=>true
 | _=>false
theorem run_nilIface [_KN:Know] {P:Program} {t:TypeId} {x y:Operand} (ht:ifaceQ P t = true) (hc:(isConstQ x || isConstQ y) = true) (w:World) :
  (do eqGuard .eql t x y .nilIface .nilIface; binOp .eql t .nilIface .nilIface:Sem Value).run P w = .ok (.bool true) w ∧
  (do eqGuard .neq t x y .nilIface .nilIface; binOp .neq t .nilIface .nilIface:Sem Value).run P w = .ok (.bool false) w:=by
 obtain ⟨ms,hu⟩:=ifaceQ_ok ht
 have hg:∀ op,(eqGuard op t x y .nilIface .nilIface).run P w = .ok () w:=fun op=>by
  unfold eqGuard
  simp only [Sem.run_bind,Sem.run_ite,Sem.run_pure]
  cases x <;> cases y <;> first | (cases hc; done) | (split <;> simp)
 have he:(Op.equal t .nilIface .nilIface).run P w = .ok true w:=by
  have:∀ d:Nat,(Op.equalIn (d + 1) t .nilIface .nilIface).run P w = .ok true w:=fun d=>by simp [Op.equalIn,run_underlying hu]
  exact this 9999
 constructor
 ·simp only [Sem.run_bind,hg,Result.andThen_ok,binOp,he,Sem.run_pure]
 ·simp only [Sem.run_bind,hg,Result.andThen_ok,binOp,he,Sem.run_pure]; rfl
theorem run_someIface [_KN:Know] {P:Program} {t:TypeId} {x y:Operand} {tt:TypeId} {v:Value} (ht:ifaceQ P t = true) (w:World) :
  (do eqGuard .eql t x y (.iface tt v) .nilIface; binOp .eql t (.iface tt v) .nilIface:Sem Value).run P w = .ok (.bool false) w ∧
  (do eqGuard .neq t x y (.iface tt v) .nilIface; binOp .neq t (.iface tt v) .nilIface:Sem Value).run P w = .ok (.bool true) w:=by
 obtain ⟨ms,hu⟩:=ifaceQ_ok ht
 have hg:∀ op,(eqGuard op t x y (.iface tt v) .nilIface).run P w = .ok () w:=fun op=>by
  unfold eqGuard
  simp only [Sem.run_ite,Sem.run_pure]
  split <;> simp
 have he:(Op.equal t (.iface tt v) .nilIface).run P w = .ok false w:=by
  have:∀ d:Nat,(Op.equalIn (d + 1) t (.iface tt v) .nilIface).run P w = .ok false w:=fun d=>by simp [Op.equalIn,run_underlying hu]
  exact this 9999
 constructor
 ·simp only [Sem.run_bind,hg,Result.andThen_ok,binOp,he,Sem.run_pure]
 ·simp only [Sem.run_bind,hg,Result.andThen_ok,binOp,he,Sem.run_pure]; rfl
structure HardN [KN:Know] (P:Program) (n:Nat) (o:Oper) (K:St → Prop) (st:St):Prop where
 ok:SOp P n o K st
def dbin [KN:Know] (P:Program) (n:Nat) (o:Oper) (op:BinOp) (t:TypeId) (x y:Operand) (K:St → Prop) (st:St):AV → AV → Prop
 | .vs _ _,.nils=>HardN P n o K st
 | .ref _ _ _,.nils=>HardN P n o K st
 | .lit .nilIface,.lit .nilIface=>(match op with
  | .eql=>ifK (ifaceQ P t = true ∧ (isConstQ x || isConstQ y) = true) (st.putK o.dst (.lit (.bool true)) K)
  | .neq=>ifK (ifaceQ P t = true ∧ (isConstQ x || isConstQ y) = true) (st.putK o.dst (.lit (.bool false)) K)
  | _=>False)
 | .lit (.iface _ _),.lit .nilIface=>(match op with
  | .eql=>ifK (ifaceQ P t = true) (st.putK o.dst (.lit (.bool false)) K)
  | .neq=>ifK (ifaceQ P t = true) (st.putK o.dst (.lit (.bool true)) K)
  | _=>False)
 | .lit (.string a),.lit (.string b)=>(match op with
  | .lss=>Nm (Op.bytesLess a.toList b.toList) fun v=>st.putK o.dst (.lit (.bool v)) K
  | .leq=>Nm (Op.bytesLess a.toList b.toList || a.toList == b.toList) fun v=>st.putK o.dst (.lit (.bool v)) K
  | .gtr=>Nm (!(Op.bytesLess a.toList b.toList || a.toList == b.toList)) fun v=>st.putK o.dst (.lit (.bool v)) K
  | .geq=>Nm (!(Op.bytesLess a.toList b.toList)) fun v=>st.putK o.dst (.lit (.bool v)) K
  | _=>bstep P n o K st)
 | _,_=>bstep P n o K st
def arrQ (P:Program) (t:TypeId):Bool:=match P.underlying t with | some (.array _ _)=>true | _=>false
def dstep [KN:Know] (P:Program) (n:Nat) (o:Oper) (K:St → Prop) (st:St):Prop :=
 match o.op with
 | .binOp op t x y _=>dbin P n o op t x y K st (aeval st x) (aeval st y)
 | .call { callee:=.builtin .copy,.. }=>HardN P n o K st
 | .convert _ t x=>(match P.underlying t,aeval st x with
  | some .string,.lit (.int _ _)=>HardN P n o K st
  | _,_=>bstep P n o K st)
 | .alloc t=>(match arrQ P t with
  | true=>HardN P n o K st
  | false=>bstep P n o K st)
 | .indexAddr _ x _=>(match aeval st x with
  | .eptr _ _ _=>HardN P n o K st
  | _=>bstep P n o K st)
 | _=>bstep P n o K st
theorem dstep_ok [KN:Know] {P:Program} {n:Nat} {o:Oper} {K:St → Prop} {st:St} (h:dstep P n o K st):SOp P n o K st:=by
 unfold dstep at h
 split at h
 ·rename_i op t x y u ho
  unfold dbin at h
  simp only [St.putK_eq] at h
  split at h
  ·exact h.ok
  ·exact h.ok
  ·rename_i e1 e2
   split at h
   ·obtain ⟨⟨h1,h2⟩,h⟩:=ifK_elim h
    exact SOp.binLit ho e1 e2 (fun w=>(run_nilIface h1 h2 w).1) h
   ·obtain ⟨⟨h1,h2⟩,h⟩:=ifK_elim h
    exact SOp.binLit ho e1 e2 (fun w=>(run_nilIface h1 h2 w).2) h
   ·exact h.elim
  ·rename_i e1 e2
   split at h
   ·obtain ⟨h1,h⟩:=ifK_elim h
    exact SOp.binLit ho e1 e2 (fun w=>(run_someIface h1 w).1) h
   ·obtain ⟨h1,h⟩:=ifK_elim h
    exact SOp.binLit ho e1 e2 (fun w=>(run_someIface h1 w).2) h
   ·exact h.elim
  ·rename_i a b e1 e2
   split at h
   ·exact SOp.binLit ho e1 e2 (r:=.bool (Op.bytesLess a.toList b.toList)) (fun w=>by simp only [Sem.run_bind,eqGuard_string,Result.andThen_ok,binOp,Op.stringOp,Sem.run_pure]) h.get
   ·exact SOp.binLit ho e1 e2 (r:=.bool (Op.bytesLess a.toList b.toList || a.toList == b.toList)) (fun w=>by simp only [Sem.run_bind,eqGuard_string,Result.andThen_ok,binOp,Op.stringOp,Sem.run_pure]) h.get
   ·exact SOp.binLit ho e1 e2 (r:=.bool (!(Op.bytesLess a.toList b.toList || a.toList == b.toList))) (fun w=>by simp only [Sem.run_bind,eqGuard_string,Result.andThen_ok,binOp,Op.stringOp,Sem.run_pure]) h.get
   ·exact SOp.binLit ho e1 e2 (r:=.bool (!(Op.bytesLess a.toList b.toList))) (fun w=>by simp only [Sem.run_bind,eqGuard_string,Result.andThen_ok,binOp,Op.stringOp,Sem.run_pure]) h.get
   ·exact astep_ok (bstep_astep h)
  ·exact astep_ok (bstep_astep h)
 ·exact h.ok
 ·split at h
  ·exact h.ok
  ·exact astep_ok (bstep_astep h)
 ·split at h
  ·exact h.ok
  ·exact astep_ok (bstep_astep h)
 ·split at h
  ·exact h.ok
  ·exact astep_ok (bstep_astep h)
 ·exact astep_ok (bstep_astep h)
structure Gate [KN:Know] (P:Program) (n:Nat) (o:Oper) (K:St → Prop) (st:St):Prop where
 ok:SOp P n o K st
theorem Gate.go [KN:Know] {P:Program} {n:Nat} {o:Oper} {K:St → Prop} {st:St} (h:dstep P n o K st):Gate P n o K st:=⟨dstep_ok h⟩
theorem Gate.weak [KN:Know] {P:Program} {n:Nat} {o:Oper} {K:St → Prop} {st st':St} (W:Sees n st st') (h:dstep P n o K st'):Gate P n o K st:=⟨SOp.sees W (dstep_ok h)⟩
def gateQ:Op → Bool
 | .build _ _ | .buildSlice _ _ _ | .makeFunc _ _ _ | .makeInterface _ _=>true
 | .call { callee:=.value _,.. }=>true
 | .call { callee:=.builtin .append,.. }=>true
 | _=>false
def cstep [KN:Know] (P:Program) (n:Nat) (o:Oper) (K:St → Prop) (st:St):Prop :=
 match gateQ o.op with
 | true=>Gate P n o K st
 | false=>dstep P n o K st
theorem cstep_ok [KN:Know] {P:Program} {n:Nat} {o:Oper} {K:St → Prop} {st:St} (h:cstep P n o K st):SOp P n o K st:=by
 unfold cstep at h
 split at h
 ·exact h.ok
 ·exact dstep_ok h
end Go.Q
namespace Go.Q
open Go
def brwp [KN:Know] (P:Program) (n:Nat) (ops:Array Oper):List Oper → (St → Prop) → St → Prop
 | [],N,st=>N st
 | o :: r,N,st=>match o.guard with
  | none=>cstep P n o (brwp P n ops r N) st
  | some (j,want)=>match (ops[j]?).bind (·.dst) with
   | some d=>match st.get d with
    | .lit (.bool b)=>ifB b
      (st.putK (some d) (.lit (.bool true)) fun st=>match want with | true=>cstep P n o (brwp P n ops r N) st | false=>st.putK o.dst (.tup []) (brwp P n ops r N))
      (st.putK (some d) (.lit (.bool false)) fun st=>match want with | false=>cstep P n o (brwp P n ops r N) st | true=>st.putK o.dst (.tup []) (brwp P n ops r N))
    | .tup []=>st.putK o.dst (.tup []) (brwp P n ops r N)
    | _=>False
   | none=>False
theorem brwp_ok [KN:Know] {P:Program} {n:Nat} {ops:Array Oper}:∀ {l:List Oper} {N:St → Prop} {st:St},brwp P n ops l N st → SR P n ops l N st:=by
 intro l
 induction l with
 | nil =>
  intro N st h I μ a w R hn Q hQ
  exact hQ _ _ _ _ _ h R (Step.refl _ _ _) (Pre.refl _ _ hn)
 | cons o r ih =>
  intro N st h
  have doop:∀ st,cstep P n o (brwp P n ops r N) st → ∀ I μ a w,Rel I μ st a w → n ≤ μ.length → ∀ Q:Exit → Act → World → Prop,
    (∀ I' μ' st' a' w',N st' → Rel I' μ' st' a' w' → Step I μ w I' μ' w' → Pre n μ μ' → Q .normal a' w') → o.wp P a w (wpList P ops Q r) Q:=by
   intro st h I μ a w R hn Q hQ
   refine cstep_ok h I μ a w R hn _ _ (fun I' μ' st' v' w' h' R' S' p'=>ih h' I' μ' _ w' R' p'.1 Q (fun I2 μ2 st2 a2 w2 h2 R2 S2 p2=>hQ _ _ _ _ _ h2 R2 (S'.trans S2) (p'.trans p2)))
  intro I μ a w R hn Q hQ
  simp only [brwp] at h
  cases hg:o.guard with
  | none =>
   rw [hg] at h
   simp only at h
   unfold wpList
   rw [if_pos (by simp [Region.wanted,hg])]
   exact .inl (doop _ h I μ a w R hn Q hQ)
  | some jw =>
   obtain ⟨j,want⟩:=jw
   rw [hg] at h
   simp only at h
   cases hd:(ops[j]?).bind (·.dst) with
   | none=>rw [hd] at h; exact h.elim
   | some d =>
    rw [hd] at h
    simp only at h
    split at h
    ·rename_i b hb
     have hlt:=get_lt hb (by simp)
     have hv:=R.tmps d
     rw [hb] at hv
     have hval:=hv.lit_eq
     have hy:yielded ops a.tmps j = some b:=by
      unfold yielded
      rw [hd]
      have hlt':d < a.tmps.size:=by rw [R.size]; exact hlt
      rw [getD_of hlt'] at hval
      simp only [Option.bind_some,Array.getElem?_eq_getElem hlt',hval]
     obtain ⟨hT,hF⟩:=ifB_elim h
     have R':Rel I μ (st.put (some d) (.lit (.bool b))) a w:=by
      have:=R.put (v:=.bool b) (.lit _ (.bool b)) (some d)
      have e:a.put (some d) (.bool b) = a:=by
       cases a with
       | mk tmps defers =>
        simp only [Act.put]
        congr 1
        apply Array.ext
        ·simp
        ·intro i h1 h2
         rw [Array.getElem_setIfInBounds]
         split
         ·rename_i e
          subst e
          have hlt':d < tmps.size:=h2
          have:=hval
          rw [getD_of hlt'] at this
          exact this.symm
         ·rfl
      rwa [e] at this
     have skip:∀ st,Rel I μ st a w → brwp P n ops r N (st.put o.dst (.tup [])) → wpList P ops Q r (a.put o.dst Go.undef) w:=fun st R h=>ih h I μ _ w (R.put rel_tup0 o.dst) hn Q hQ
     unfold wpList
     cases b with
     | true =>
      have h:=hT rfl
      simp only [St.putK_eq] at h
      cases want with
      | true =>
       rw [if_pos (by simp [Region.wanted,hg,hy])]
       exact .inl (doop _ h I μ a w R' hn Q hQ)
      | false =>
       rw [if_neg (by simp [Region.wanted,hg,hy])]
       exact skip _ R' h
     | false =>
      have h:=hF rfl
      simp only [St.putK_eq] at h
      cases want with
      | false =>
       rw [if_pos (by simp [Region.wanted,hg,hy])]
       exact .inl (doop _ h I μ a w R' hn Q hQ)
      | true =>
       rw [if_neg (by simp [Region.wanted,hg,hy])]
       exact skip _ R' h
    ·rename_i hb
     have hlt:=get_lt hb (by simp)
     have hv:=R.tmps d
     rw [hb] at hv
     have hval:=tup0_inv hv
     have hy:yielded ops a.tmps j = none:=by
      unfold yielded
      rw [hd]
      have hlt':d < a.tmps.size:=by rw [R.size]; exact hlt
      rw [getD_of hlt'] at hval
      simp only [Option.bind_some,Array.getElem?_eq_getElem hlt',hval]
     rw [St.putK_eq] at h
     unfold wpList
     rw [if_neg (by simp [Region.wanted,hg,hy])]
     exact ih h I μ _ w (R.put rel_tup0 o.dst) hn Q hQ
    ·exact h.elim
structure DNodeB [KN:Know] (P:Program) (o:Oper) (st:St) (K:AV → Prop):Prop where
 ex:∃ av,dstep P st.h.length o (fun st''=>st'' = (restrict o st).put o.dst av) (restrict o st) ∧ K av
def bdwp [KN:Know] (P:Program) (ops:Array Oper):List Oper → (St → Prop) → St → Prop
 | [],N,st=>N st
 | o :: r,N,st=>match o.guard with
  | none=>DNodeB P o st (fun av=>st.putK o.dst av (bdwp P ops r N))
  | some (j,want)=>match (ops[j]?).bind (·.dst) with
   | some d=>match st.get d with
    | .lit (.bool b)=>ifB b
      (st.putK (some d) (.lit (.bool true)) fun st=>match want with | true=>DNodeB P o st (fun av=>st.putK o.dst av (bdwp P ops r N)) | false=>st.putK o.dst (.tup []) (bdwp P ops r N))
      (st.putK (some d) (.lit (.bool false)) fun st=>match want with | false=>DNodeB P o st (fun av=>st.putK o.dst av (bdwp P ops r N)) | true=>st.putK o.dst (.tup []) (bdwp P ops r N))
    | .tup []=>st.putK o.dst (.tup []) (bdwp P ops r N)
    | _=>False
   | none=>False
theorem bdwp_ok [KN:Know] {P:Program} {ops:Array Oper} {N:St → Prop}:∀ {l:List Oper} {st:St},bdwp P ops l N st → ∀ st1,SameSt st st1 → ∃ tr sF,TraceL P ops l st1 tr sF ∧ N sF:=by
 intro l
 induction l with
 | nil=>intro st h st1 hs; exact ⟨[],st,⟨rfl,⟨fun d=>(hs.get d).symm,hs.n.symm,hs.h.symm⟩⟩,h⟩
 | cons o r ih =>
  intro st h st1 hs
  have node:∀ st,SameSt st st1 → DNodeB P o st (fun av=>st.putK o.dst av (bdwp P ops r N)) → ∃ av tr sF,DO P o st av ∧ TraceL P ops r (st1.put o.dst av) tr sF ∧ N sF:=by
   intro st hs ⟨av,h1,h2⟩
   rw [St.putK_eq] at h2
   obtain ⟨tr,sF,h3,h4⟩:=ih h2 _ (hs.put o.dst av)
   exact ⟨av,tr,sF,dstep_ok h1,h3,h4⟩
  simp only [bdwp] at h
  cases hg:o.guard with
  | none =>
   rw [hg] at h
   simp only at h
   obtain ⟨av,tr,sF,h1,h2,h3⟩:=node st hs h
   exact ⟨av :: tr,sF,⟨av,tr,rfl,⟨st,hs,by rw [hg]; exact h1⟩,h2⟩,h3⟩
  | some jw =>
   obtain ⟨j,want⟩:=jw
   rw [hg] at h
   simp only at h
   cases hd:(ops[j]?).bind (·.dst) with
   | none=>rw [hd] at h; exact h.elim
   | some d =>
    rw [hd] at h
    simp only at h
    split at h
    ·rename_i b hb
     have hs':SameSt (st.put (some d) (.lit (.bool b))) st1:=hs.reput hb
     have hb':(st.put (some d) (.lit (.bool b))).get d = .lit (.bool b):=by
      rw [put_get]
      have:=get_lt hb (by simp)
      rw [if_pos ⟨rfl,this⟩]
     obtain ⟨hT,hF⟩:=ifB_elim h
     have run:DNodeB P o (st.put (some d) (.lit (.bool b))) (fun av=>(st.put (some d) (.lit (.bool b))).putK o.dst av (bdwp P ops r N)) → b = want → ∃ tr sF,TraceL P ops (o :: r) st1 tr sF ∧ N sF:=by
      intro h hw
      obtain ⟨av,tr,sF,h1,h2,h3⟩:=node _ hs' h
      exact ⟨av :: tr,sF,⟨av,tr,rfl,⟨_,hs',by rw [hg]; exact ⟨d,hd,.inl ⟨b,hb',.inl ⟨hw,h1⟩⟩⟩⟩,h2⟩,h3⟩
     have skip:bdwp P ops r N ((st.put (some d) (.lit (.bool b))).put o.dst (.tup [])) → b ≠ want → ∃ tr sF,TraceL P ops (o :: r) st1 tr sF ∧ N sF:=by
      intro h hw
      obtain ⟨tr,sF,h3,h4⟩:=ih h _ (hs'.put o.dst (.tup []))
      exact ⟨.tup [] :: tr,sF,⟨.tup [],tr,rfl,⟨_,hs',by rw [hg]; exact ⟨d,hd,.inl ⟨b,hb',.inr ⟨hw,rfl⟩⟩⟩⟩,h3⟩,h4⟩
     cases b with
     | true =>
      have h:=hT rfl
      rw [St.putK_eq] at h
      cases want with
      | true=>exact run h rfl
      | false=>rw [St.putK_eq] at h; exact skip h (by simp)
     | false =>
      have h:=hF rfl
      rw [St.putK_eq] at h
      cases want with
      | false=>exact run h rfl
      | true=>rw [St.putK_eq] at h; exact skip h (by simp)
    ·rename_i hb
     rw [St.putK_eq] at h
     obtain ⟨tr,sF,h3,h4⟩:=ih h _ (hs.put o.dst (.tup []))
     exact ⟨.tup [] :: tr,sF,⟨.tup [],tr,rfl,⟨_,hs,by rw [hg]; exact ⟨d,hd,.inr ⟨hb,rfl⟩⟩⟩,h3⟩,h4⟩
    ·exact h.elim
def codeId:Code → Nat
 | .seq a b=>(match codeId a with | 0=>codeId b | k=>k)
 | .cond _ a b=>(match codeId a with | 0=>codeId b | k=>k)
 | .region id _ _=>2 * id + 1
 | .block id _=>2 * id + 2
 | .loop c=>codeId c
 | _=>0
def headKey:Code → Nat × Nat
 | .seq a _=>headKey a
 | .region id _ _=>(0,id)
 | .block id _=>(1,id)
 | .cond (.tmp t) x y=>(10 + t,codeId (.cond (.tmp t) x y))
 | .loop c=>(3,(headKey c).2)
 | _=>(9,0)
def inC:List (Nat × Nat) → Nat × Nat → Bool
 | [],_=>false
 | k :: r,x=>match Nat.beq k.1 x.1 && Nat.beq k.2 x.2 with
  | true=>true
  | false=>inC r x
structure CutN [KN:Know] (P:Program) (n:Nat) (C:List (Nat × Nat)) (a b:Code) (Q:Exit → St → Prop) (st:St):Prop where
 ok:SWP P n (.seq a b) Q st
structure LoopB [KN:Know] (P:Program) (n:Nat) (C:List (Nat × Nat)) (c:Code) (Q:Exit → St → Prop) (st:St):Prop where
 ok:SWP P n (.loop c) Q st
structure DrawB [KN:Know] (P:Program) (n:Nat) (id:Nat) (ops:Array Oper) (Q:Exit → St → Prop) (st:St):Prop where
 ok:SWP P n (.region id ops true) Q st
def mapQ:List Oper → Bool
 | []=>false
 | o :: r=>match o.op with
  | .makeMap _ _=>true
  | _=>mapQ r
structure MapB [KN:Know] (P:Program) (n:Nat) (id:Nat) (ops:Array Oper) (Q:Exit → St → Prop) (st:St):Prop where
 ok:SWP P n (.region id ops false) Q st
def bwp [KN:Know] (P:Program) (n:Nat) (C:List (Nat × Nat)):Code → (Exit → St → Prop) → St → Prop
 | .skip,Q,st=>Q .normal st
 | .seq a b,Q,st=>match inC C (headKey b) with
  | true=>CutN P n C a b Q st
  | false=>bwp P n C a (thenQ (bwp P n C b Q) Q) st
 | .cond c x y,Q,st=>match aeval st c with
  | .lit (.bool b)=>ifB b (bwp P n C x Q st) (bwp P n C y Q st)
  | _=>False
 | .block id c,Q,st=>bwp P n C c (blockQ id Q) st
 | .exit id,Q,st=>Q (.exit id) st
 | .ret,Q,st=>Q .ret st
 | .region id ops draw,Q,st=>match draw with
  | false=>match mapQ ops.toList with
   | false=>brwp P n ops ops.toList (Q .normal) st
   | true=>MapB P n id ops Q st
  | true=>DrawB P n id ops Q st
 | .loop c,Q,st=>LoopB P n C c Q st
 | _,_,_=>False
theorem SWP.regionB [KN:Know] {P:Program} {n:Nat} {id:Nat} {ops:Array Oper} {Q:Exit → St → Prop} {st:St} (h:brwp P n ops ops.toList (Q .normal) st):SWP P n (.region id ops false) Q st:=by
 intro I μ a w R hn
 exact wp_region_list (brwp_ok h I μ a w R hn _ fun I' μ' st' a' w' h' R' S p=>⟨I',μ',st',h',R',S,p⟩)
theorem bwp_ok [KN:Know] {P:Program} {n:Nat} {C:List (Nat × Nat)}:∀ {c:Code} {Q:Exit → St → Prop} {st:St},bwp P n C c Q st → SWP P n c Q st:=by
 intro c
 induction c with
 | skip=>intro Q st h I μ a w R hn; exact wp_skip ⟨I,μ,st,h,R,Step.refl _ _ _,Pre.refl _ _ hn⟩
 | region id ops draw =>
  intro Q st h
  cases draw with
  | false =>
   simp only [bwp] at h
   split at h
   ·exact SWP.regionB h
   ·exact h.ok
  | true=>exact h.ok
 | seq a b iha ihb =>
  intro Q st h
  simp only [bwp] at h
  split at h
  ·exact h.ok
  ·refine SWP.seq ((iha h).mono fun e s hq=>?_)
   cases e with
   | normal=>exact ihb hq
   | _=>exact hq
 | cond c x y ihx ihy =>
  intro Q st h
  simp only [bwp] at h
  split at h
  ·rename_i b hb
   obtain ⟨h1,h2⟩:=ifB_elim h
   exact SWP.cond hb (fun e=>ihx (h1 e)) (fun e=>ihy (h2 e))
  ·exact h.elim
 | block id c ih=>intro Q st h; exact SWP.block (ih h)
 | loop c _=>intro Q st h; exact h.ok
 | exit id=>intro Q st h I μ a w R hn; exact wp_exit ⟨I,μ,st,h,R,Step.refl _ _ _,Pre.refl _ _ hn⟩
 | ret=>intro Q st h I μ a w R hn; exact wp_ret ⟨I,μ,st,h,R,Step.refl _ _ _,Pre.refl _ _ hn⟩
 | rangeFunc=>intro Q st h; exact h.elim
 | scope=>intro Q st h; exact h.elim
 | label=>intro Q st h; exact h.elim
 | goto=>intro Q st h; exact h.elim
 | refuse=>intro Q st h; exact h.elim
theorem CutN.of [KN:Know] {P:Program} {n:Nat} {C:List (Nat × Nat)} {a b:Code} {Q:Exit → St → Prop} {st:St} (Mid:St → Prop) (h:bwp P n C a (thenQ (fun s=>BackS n s Mid) Q) st) (h2:∀ s,Mid s → bwp P n C b Q s):CutN P n C a b Q st :=
 ⟨SWP.cutS Mid (bwp_ok h) (fun s hs=>bwp_ok (h2 s hs))⟩
theorem DrawB.of [KN:Know] {P:Program} {n id:Nat} {ops:Array Oper} {Q:Exit → St → Prop} {st:St} (hm:P.follows .mixedOrders = true) (hd:drawOk ops = true) (h:bdwp P ops ops.toList (Q .normal) st):DrawB P n id ops Q st:=by
 obtain ⟨tr,sF,h1,h2⟩:=bdwp_ok h st ⟨fun _=>rfl,rfl,rfl⟩
 exact ⟨SWP.draw hm hd h1 h2⟩
theorem DNodeB.of [KN:Know] {P:Program} {o:Oper} {st:St} {K:AV → Prop} (av:AV) (h1:dstep P st.h.length o (fun st''=>st'' = (restrict o st).put o.dst av) (restrict o st)) (h2:K av):DNodeB P o st K:=⟨av,h1,h2⟩
def letk {α ρ:Type} (x:α) (X:α → Option ρ):Option ρ:=X x
noncomputable def chk {ρ:Type} (c:Prop) (X:Option ρ):Option ρ:=@ite _ c (Classical.propDecidable c) X none
theorem letk_elim {α ρ:Type} {x:α} {X:α → Option ρ} {r:ρ} (h:letk x X = some r):∃ y,y = x ∧ X y = some r:=⟨x,rfl,h⟩
theorem chk_elim {ρ:Type} {c:Prop} {X:Option ρ} {r:ρ} (h:chk c X = some r):c ∧ X = some r:=by
 unfold chk at h
 split at h
 ·exact ⟨by assumption,h⟩
 ·cases h
theorem bind_elim {α ρ:Type} {x:Option α} {X:α → Option ρ} {r:ρ} (h:x.bind X = some r):∃ y,x = some y ∧ X y = some r:=Option.bind_eq_some_iff.1 h
theorem map_elim {α ρ:Type} {x:Option α} {f:α → ρ} {r:ρ} (h:x.map f = some r):∃ y,x = some y ∧ f y = r:=Option.map_eq_some_iff.1 h
theorem bif_t {ρ:Type} {X Y:Option ρ} {r:ρ} (h:(bif true then X else Y) = some r):X = some r:=h
theorem bif_f {ρ:Type} {X Y:Option ρ} {r:ρ} (h:(bif false then X else Y) = some r):Y = some r:=h
def iterO {σ ρ:Type} (step:σ → Option (σ ⊕ ρ)):Nat → σ → Option ρ
 | 0,_=>none
 | k + 1,s=>match step s with
  | some (.inl s')=>iterO step k s'
  | some (.inr r)=>some r
  | none=>none
theorem iterO_mono {σ ρ:Type} {step:σ → Option (σ ⊕ ρ)} {r:ρ}:∀ {k j:Nat} {s:σ},iterO step k s = some r → k ≤ j → iterO step j s = some r:=by
 intro k
 induction k with
 | zero=>intro j s h; cases h
 | succ k ih =>
  intro j s h hj
  obtain ⟨j,rfl⟩:∃ i,j = i + 1:=⟨j - 1,by omega⟩
  unfold iterO at h ⊢
  split at h
  ·exact ih h (by omega)
  ·exact h
  ·cases h
open Classical in
noncomputable def loopO {σ ρ:Type} (step:σ → Option (σ ⊕ ρ)) (s:σ):Option ρ:=if h:∃ k,(iterO step k s).isSome then iterO step h.choose s else none
theorem loopO_iff [_KN:Know] {σ ρ:Type} {step:σ → Option (σ ⊕ ρ)} {s:σ} {r:ρ}:loopO step s = some r ↔ ∃ k,iterO step k s = some r:=by
 unfold loopO
 constructor
 ·intro h
  split at h
  ·exact ⟨_,h⟩
  ·cases h
 ·rintro ⟨k,hk⟩
  have hex:∃ k,(iterO step k s).isSome:=⟨k,by rw [hk]; rfl⟩
  rw [dif_pos hex]
  obtain ⟨r',hr'⟩:=Option.isSome_iff_exists.1 hex.choose_spec
  have h1:=iterO_mono hk (Nat.le_max_left k hex.choose)
  have h2:=iterO_mono hr' (Nat.le_max_right k hex.choose)
  rw [h1] at h2
  rw [hr',← Option.some.inj h2]
theorem loopO_eq [KN:Know] {σ ρ:Type} (step:σ → Option (σ ⊕ ρ)) (s:σ):loopO step s = (step s).bind (Sum.elim (loopO step) some):=by
 apply Option.ext
 intro r
 rw [loopO_iff]
 constructor
 ·rintro ⟨k,hk⟩
  cases k with
  | zero=>cases hk
  | succ k =>
   unfold iterO at hk
   split at hk
   ·rename_i e; rw [e]; exact loopO_iff.2 ⟨k,hk⟩
   ·rename_i e; rw [e]; exact hk
   ·cases hk
 ·intro h
  obtain ⟨x,hx,h⟩:=Option.bind_eq_some_iff.1 h
  cases x with
  | inl s' =>
   obtain ⟨k,hk⟩:=loopO_iff.1 h
   exact ⟨k + 1,by unfold iterO; rw [hx]; exact hk⟩
  | inr r'=>exact ⟨1,by unfold iterO; rw [hx]; exact h⟩
theorem LoopB.of [KN:Know] {P:Program} {n:Nat} {C:List (Nat × Nat)} {c:Code} {Q:Exit → St → Prop} {st:St} {σ ρ:Type} (step:σ → Option (σ ⊕ ρ)) (enc:σ → St) {r:ρ} (v0:σ) (h:loopO step v0 = some r) (W:BackS n st (fun s=>s = enc v0))
  (round:∀ (K:σ → Prop) (v:σ) (x:σ ⊕ ρ),step v = some x → (∀ v',x = .inl v' → K v') → (∀ r',x = .inr r' → r' = r) → bwp P n C c (thenQ (fun s=>BackS n s (fun s=>∃ v',K v' ∧ s = enc v')) Q) (enc v)):LoopB P n C c Q st:=by
 obtain ⟨k,hk⟩:=loopO_iff.1 h
 obtain ⟨s0,W,e⟩:=W
 refine ⟨SWP.loopS (fun k s=>∃ v,iterO step k v = some r ∧ s = enc v) ⟨s0,W,k,v0,hk,e⟩ ?_⟩
 rintro k s ⟨v,hv,rfl⟩
 cases k with
 | zero=>cases hv
 | succ k =>
  unfold iterO at hv
  cases hx:step v with
  | none=>rw [hx] at hv; cases hv
  | some x =>
   rw [hx] at hv
   refine (bwp_ok (round (fun v'=>iterO step k v' = some r) v x hx (fun v' e=>?_) (fun r' e=>?_))).mono fun e s h=>?_
   ·subst e; exact hv
   ·subst e; exact Option.some.inj hv
   ·cases e with
    | normal =>
     obtain ⟨s',W,v',h1,h2⟩:=h
     exact ⟨s',W,k,by omega,v',h1,h2⟩
    | _=>exact h
theorem pure1_sh0 {k:Nat} {v:AV} (h:pureQ.pureQ1 v = true):sh0 k v = v:=by
 cases v <;> first | rfl | (cases h; done) | skip
 simp only [pureQ.pureQ1] at h
 simp only [sh0,h,if_true]
theorem pureQ_sh1 [_KN:Know] {k:Nat} {v:AV} (h:pureQ v = true):sh1 k v = v:=by
 cases v with
 | agg cs =>
  simp only [pureQ,List.all_eq_true] at h
  simp only [sh1]
  congr 1
  exact (List.map_congr_left fun c hc=>pure1_sh0 (h c hc)).trans (List.map_id _)
 | _=>exact pure1_sh0 (k:=k) (by simpa only [pureQ] using h)
theorem pureT_sh2 [KN:Know] {k:Nat} {v:AV} (h:pureT v = true):sh2 k v = v:=by
 cases v with
 | tup cs =>
  simp only [pureT,List.all_eq_true] at h
  simp only [sh2]
  congr 1
  exact (List.map_congr_left fun c hc=>pureQ_sh1 (h c hc)).trans (List.map_id _)
 | _=>exact pureQ_sh1 (k:=k) (by simpa only [pureT] using h)
theorem CallN.by [KN:Know] {P:Program} {n:Nat} {g:FuncId} {args:List AV} {st:St} {K:St → AV → Prop} {v:AV} (h:Gives P g args v) (hp:args.all pureQ = true) (hv:pureT v = true) (hK:K st v):CallN P n g args st K :=
 CallN.gives h hp (by rw [pureT_sh2 hv]; exact hK)
def lends (h:List AObj):List AV → List AV → Prop
 | [],[]=>True
 | a :: as',b :: bs=>lend h a b ∧ lends h as' bs
 | _,_=>False
theorem lends_ok {h:List AObj}:∀ {as' bs:List AV},lends h as' bs → as'.length = bs.length ∧ ∀ i (h1:i < as'.length) (h2:i < bs.length),lend h as'[i] bs[i]
 | [],[],_=>⟨rfl,fun i h1=>by simp at h1⟩
 | a :: as',b :: bs,⟨h1,h2⟩=>by
  obtain ⟨h3,h4⟩:=lends_ok h2
  refine ⟨by simp [h3],fun i hi hi'=>?_⟩
  cases i with
  | zero=>exact h1
  | succ i=>exact h4 i (by simpa using hi) (by simpa using hi')
 | [],_ :: _,h=>h.elim
 | _ :: _,[],h=>h.elim
theorem lend_all {h:List AObj} {k s:Nat} {es:List AV} (ho:h[k]? = some (.arr s es)):lend h (.ref k 0 es.length) (.vs s es) :=
 ⟨s,es,ho,by omega,by simp⟩
theorem CallN.lendBy [KN:Know] {P:Program} {n:Nat} {g:FuncId} {args bs:List AV} {st:St} {K:St → AV → Prop} {v:AV} (h:Gives P g bs v) (hb:lends st.h args bs) (hv:flatLit v = true) (hK:K st v):CallN P n g args st K :=
 ⟨CallOK.lend h (lends_ok hb).1 (lends_ok hb).2 (by rintro r h' ⟨rfl,rfl⟩; exact ⟨hv,hK⟩)⟩
theorem map_takeAll {α β:Type} (f:α → β) (l:List α):((l.map f).drop 0).take (l.map f).length = l.map f:=by simp [List.take_of_length_le]
theorem app_rr [_KN:Know] {α β:Type} {f:α → β} {l m:List α}:(l ++ m).map f = ((l.map f).drop 0).take (l.map f).length ++ ((m.map f).drop 0).take (m.map f).length:=by
 rw [map_takeAll,map_takeAll,List.map_append]
theorem app_rv [_KN:Know] {α β:Type} {f:α → β} {l m:List α}:(l ++ m).map f = ((l.map f).drop 0).take (l.map f).length ++ m.map f:=by rw [map_takeAll,List.map_append]
theorem side_rr [_KN:Know] {α β:Type} {f:α → β} {l m:List α} {b:Nat} (hb:0 < b) (h:(l.length + m.length) * b ≤ 140737488355328) :
  ((((l.map f).drop 0).take (l.map f).length).length + (((m.map f).drop 0).take (m.map f).length).length) * b ≤ 140737488355328 ∧ (((l.map f).drop 0).take (l.map f).length).length + (((m.map f).drop 0).take (m.map f).length).length ≤ 9223372036854775807:=by
 rw [map_takeAll,map_takeAll,List.length_map,List.length_map]
 refine ⟨h,?_⟩
 have:l.length + m.length ≤ (l.length + m.length) * b:=Nat.le_mul_of_pos_right _ hb
 omega
theorem side_rv [_KN:Know] {α β:Type} {f:α → β} {l m:List α} {b:Nat} (hb:0 < b) (h:(l.length + m.length) * b ≤ 140737488355328) :
  ((((l.map f).drop 0).take (l.map f).length).length + (m.map f).length) * b ≤ 140737488355328 ∧ (((l.map f).drop 0).take (l.map f).length).length + (m.map f).length ≤ 9223372036854775807:=by
 rw [map_takeAll,List.length_map,List.length_map]
 refine ⟨h,?_⟩
 have:l.length + m.length ≤ (l.length + m.length) * b:=Nat.le_mul_of_pos_right _ hb
 omega
theorem full_le {β:Type} (l:List β):0 + l.length ≤ l.length:=by omega
theorem At.by {α:Type} {f:α → AV} {l:List α} {i:Nat} {K:AV → Prop} {x:α} (h:l[i]? = some x) (k:K (f x)):At (l.map f) i K:=⟨⟨f x,by rw [List.getElem?_map,h]; rfl,k⟩⟩
theorem WV.all {h:List AObj} {keep frz:List Nat} {m:Nat} {es:List AV} {s k:Nat} (hf:k ∈ frz) (ho:h[k]? = some (.arr s es)):WV h keep frz m (.ref k 0 es.length) (.vs s es):=by
 have:=WV.refFrz (h:=h) (keep:=keep) (frz:=frz) (m:=m) k 0 es.length s es hf ho (by omega)
 simpa using this
end Go.Q
namespace Go.Q
open Go
abbrev eI (k:IntKind) (n:Int):AV:=.lit (.int k n)
abbrev eB (b:Bool):AV:=.lit (.bool b)
abbrev eV {α:Type} (s:Nat) (f:α → AV) (l:List α):AV:=.vs s (l.map f)
def bytesI (s:ByteArray):List Int:=s.data.toList.map fun c=>(c.toNat:Int)
theorem bytesI_map (s:ByteArray):(bytesI s).map (eI .u8) = s.data.toList.map fun c=>.lit (.int .u8 c.toNat):=by
 unfold bytesI
 rw [List.map_map]
 rfl
theorem one_map {α:Type} {f:α → AV} {l:List α} (h:∀ (x:α) (c:AV),c ∈ (f x).cells → oneQ [] c = true):OneCells (l.map f):=by
 intro e he c hc
 obtain ⟨x,_,rfl⟩:=List.mem_map.1 he
 exact h x c hc
def WVs (h:List AObj) (keep frz:List Nat) (m:Nat):List AV → List AV → Prop
 | [],[]=>True
 | a :: as',b :: bs=>WV h keep frz m a b ∧ WVs h keep frz m as' bs
 | _,_=>False
theorem WVs.spec {h:List AObj} {keep frz:List Nat} {m:Nat}:∀ {cs ds:List AV},WVs h keep frz m cs ds → ds.length = cs.length ∧ ∀ i (h1:i < cs.length) (h2:i < ds.length),WV h keep frz m cs[i] ds[i]
 | [],[],_=>⟨rfl,fun i h1=>by simp at h1⟩
 | a :: cs,b :: ds,⟨h1,h2⟩=>by
  obtain ⟨h3,h4⟩:=WVs.spec h2
  refine ⟨by simp [h3],fun i hi hi'=>?_⟩
  cases i with
  | zero=>exact h1
  | succ i=>exact h4 i (by simpa using hi) (by simpa using hi')
 | [],_ :: _,h=>h.elim
 | _ :: _,[],h=>h.elim
theorem WV.tups [_KN:Know] {h:List AObj} {keep frz:List Nat} {m:Nat} {cs ds:List AV} (w:WVs h keep frz m cs ds):WV h keep frz m (.tup cs) (.tup ds):=.tup _ _ w.spec.1 w.spec.2
theorem WV.aggs [_KN:Know] {h:List AObj} {keep frz:List Nat} {m:Nat} {cs ds:List AV} (w:WVs h keep frz m cs ds):WV h keep frz m (.agg cs) (.agg ds):=.agg _ _ w.spec.1 w.spec.2
theorem WO.boxs [_KN:Know] {h:List AObj} {keep frz:List Nat} {m:Nat} {cs ds:List AV} (w:WVs h keep frz m cs ds):WO h keep frz m (.box cs) (.box ds):=.box _ _ w.spec.1 w.spec.2
end Go.Q
namespace Go.Q
open Go Go.RowKit
theorem run_enter {P : Program} {g : FuncId} {fn : Func} {c : Code} (hf : P.funcs[g]? = some fn) (hb : fn.body = some c) (hname : (fn.name == "runtime.NumGoroutine") = false) (vals : Array Value) (w : World) :
  (callFunc g vals).run P w = .ok (.enter g vals) w:=by
 unfold callFunc
 simp only [Sem.run_bind,run_program,Result.andThen_ok,hf,hname,Bool.false_eq_true,if_false,hb,Option.isNone_some,Sem.run_pure]
theorem Gives.of_callsK [KN : Know] {P : Program} {g : FuncId} {fn : Func} {c : Code} (hf : P.funcs[g]? = some fn) (hb : fn.body = some c) (hname : (fn.name == "runtime.NumGoroutine") = false) {vs : List Value} {av : AV} {v : Value}
  (hv:∀ I w μ,RelV I w μ av v) (h:∀ w,KN.holds w → Calls P g vs.toArray w fun e w'=>e = .returned v ∧ Below w.heap.size w w'):Gives P g (vs.map .lit) av:=by
 intro I μ w vals H hA
 obtain ⟨hn1,hA⟩:=hA
 have e:vals = vs.toArray:=by
  simp only [List.length_map] at hn1 hA
  apply Array.ext
  ·simpa using hn1
  ·intro i h1 h2
   have:=hA i (by omega)
   simp only [List.getElem_map] at this
   have:=this.lit_eq
   rw [getD_of h1] at this
   simpa using this
 subst e
 have hμ:μ = []:=List.eq_nil_of_length_eq_zero (by rw [H.len]; rfl)
 subst hμ
 refine .inl ⟨run_enter hf hb hname _ _,(h w H.know.2).mono ?_⟩
 rintro e w' ⟨rfl,hb⟩
 have hno:∀ b,¬ MM.owns ([]:MM) b:=fun b hb=>by obtain ⟨o,l,e,_⟩:=hb; simp [MM.loc] at e
 refine ⟨v,av,[],I,[],rfl,⟨rfl,rfl⟩,relH_nil (fun b hI=>Nat.lt_of_lt_of_le (H.imm b hI) hb.size) (H.know.step (fun _ h=>h) (fun b hI=>hb.block b (H.imm b hI))),hv _ _ _,⟨fun _ h=>h,hb.size,fun b h1 _=>hb.block b h1,fun _ h=>.inl h,fun _ h=>.inl h,hb.os,hb.output⟩,Pre.refl _ _ (by simp)⟩
theorem Gives.of_calls [KN : Know] {P : Program} {g : FuncId} {fn : Func} {c : Code} (hf : P.funcs[g]? = some fn) (hb : fn.body = some c) (hname : (fn.name == "runtime.NumGoroutine") = false) {vs : List Value} {av : AV} {v : Value}
  (hv:∀ I w μ,RelV I w μ av v) (h:∀ w,Calls P g vs.toArray w fun e w'=>e = .returned v ∧ Below w.heap.size w w'):Gives P g (vs.map .lit) av :=
 Gives.of_callsK hf hb hname hv (fun w _=>h w)
end Go.Q
namespace Go.Q
open Go
def ACallsK [KN:Know] (P:Program) (g:FuncId) (args:List AV) (hs:List AObj) (k:Nat) (R:AV → List AObj → Prop):Prop :=
 ∀ I μ w (vals:Array Value),RelH I μ hs w → ArgsRel I w μ args vals →
  CallsF P g vals w fun e w'=>∃ v r h' I' μ',e = .returned v ∧ R r h' ∧ RelH I' μ' h' w' ∧ RelV I' w' μ' r v ∧ Step I μ w I' μ' w' ∧ Pre k μ μ'
theorem ACallsK.of_swp [KN : Know] {P : Program} {f : FuncId} {fn : Func} {c : Code} {args : List AV} {hs : List AObj} {k : Nat} {R : AV → List AObj → Prop} (hf : P.funcs[f]? = some fn) (hb : fn.body = some c) (hname : (fn.name == "runtime.NumGoroutine") = false)
  (hargs:Nat.ble args.length fn.ntmps = true) {st0:St} (hst:argState fn args hs = st0) (hk:Nat.ble k hs.length = true) (h:SWP P k c (Returns P k fn R) st0):ACallsK P f args hs k R:=by
 subst hst
 replace hargs:=Nat.le_of_ble_eq_true hargs
 intro I μ w vals H ⟨hv1,hv2⟩
 refine .inl ⟨?_,?_⟩
 ·unfold callFunc
  simp only [Sem.run_bind,run_program,Result.andThen_ok,hf,hname,Bool.false_eq_true,if_false,hb,Option.isNone_some,Sem.run_pure]
 ·refine calls_of_wp hf hb ?_
  have R0:Rel I μ (argState fn args hs) { tmps:=vals ++ Array.replicate (fn.ntmps - vals.size) Go.undef,defers:=[] } w:=by
   refine ⟨fun d=>?_,by simp [argState]; omega,rfl,H⟩
   show RelV I w μ (if d < fn.ntmps then look d ((List.range args.length).zip args) else AV.undef) _
   by_cases hd:d < fn.ntmps
   ·rw [if_pos hd,List.range_eq_range',look_zip]
    by_cases h1:d < args.length
    ·rw [if_pos (by omega)]
     have:=hv2 d h1
     rw [getD_of (by omega)] at this
     rw [getD_of (by simp; omega),Array.getElem_append_left (by omega)]
     simpa [List.getElem?_eq_getElem h1] using this
    ·rw [if_neg (by omega)]; exact .undef _ _
   ·rw [if_neg hd]; exact .undef _ _
  refine wp_mono (h I μ _ w R0 (by rw [H.len]; exact Nat.le_of_ble_eq_true hk)) fun e a' w' hp=>?_
  obtain ⟨I',μ',st',⟨he,vs,hvs,keep,frz,m,r,h',hW,hr,hR⟩,R',S,p⟩:=hp
  obtain ⟨xs,hx1,hx2,hx3⟩:=mapM_results (P:=P) R' fn.results.toList vs hvs
  obtain ⟨H2,S2,p2⟩:=hW.rel R'.heap p.1
  have hres:∃ v,(results fn a'.tmps).run P w' = .ok v w' ∧ RelV I' w' μ' (resultAV vs) v:=by
   have hm:(fn.results.mapM (resOne a'.tmps)).run P w' = .ok xs.toArray w':=by
    rw [Array.mapM_eq_mapM_toList]
    simp only [Sem.run_map,hx1,Result.andThen_ok]
   refine ⟨if h:xs.toArray.size = 1 then xs.toArray[0] else .tuple xs.toArray,?_,?_⟩
   ·rw [results_eq]
    simp only [Sem.run_bind]
    rw [hm]
    rfl
   ·match vs,xs,hx2,hx3 with
    | [],[],_,_=>exact .tup _ [] _ rfl (fun i hi=>by simp at hi)
    | [v],[x],_,h3=>exact h3 0 (by simp) (by simp)
    | v1 :: v2 :: vs,x1 :: x2 :: xs,h2,h3 =>
     rw [dif_neg (by simp)]
     simp only [resultAV]
     refine .tup _ _ _ (by simpa using h2) (fun i hi=>?_)
     have hi':i < (x1 :: x2 :: xs).length:=by rw [h2]; exact hi
     have:=h3 i hi hi'
     rw [getD_of (by simpa using hi')]
     simpa using this
  obtain ⟨v,hv,hvr⟩:=hres
  have fin:∃ v_1 r_1 h'_1 I'_1 μ'_1,Ending.returned v = .returned v_1 ∧ R r_1 h'_1 ∧ RelH I'_1 μ'_1 h'_1 w' ∧ RelV I'_1 w' μ'_1 r_1 v_1 ∧ Step I μ w I'_1 μ'_1 w' ∧ Pre k μ μ'_1 :=
   ⟨v,r,h',_,_,rfl,hR,H2,hr.rel R'.heap hvr,S.trans S2,p.trans p2⟩
  rcases he with rfl | rfl
  ·exact ⟨R'.defers,v,hv,fin⟩
  ·exact ⟨R'.defers,v,hv,fin⟩
theorem ref_rel {I:Nat → Prop} {w:World} {μ μ':MM} {o off len:Nat} {v:Value} (ho:μ'[o]? = μ[o]? ∨ μ'[o]? = some .gone) (h:RelV I w μ (.ref o off len) v):RelV I w μ' (.ref o off len) v:=by
 cases h with
 | ref _ _ _ _ cap l hl hlen hcap =>
  rcases ho with e | e
  ·exact .ref _ o off len cap l (MM.loc_some.2 (e.trans (MM.loc_some.1 hl))) hlen hcap
  ·exact .refX _ o off len _ e
 | ref0 _ _ hl =>
  rcases ho with e | e
  ·exact .ref0 _ o (e.trans hl)
  ·exact .refX _ o 0 0 _ e
 | refE _ _ _ l a hl =>
  rcases ho with e | e
  ·exact .refE _ o off l a (MM.loc_some.2 (e.trans (MM.loc_some.1 hl)))
  ·exact .refX _ o off 0 _ e
 | refX _ _ _ _ v hl=>exact .refX _ o off len _ (ho.elim (fun e=>e.trans hl) id)
def keepT (k:Nat):AV → AV
 | .ptr o j=>bif Nat.blt o k then .ptr o j else .undef
 | .ref o a b=>bif Nat.blt o k then .ref o a b else .undef
 | v=>bif pureQ v then v else .undef
theorem keepT_undef (k:Nat):keepT k .undef = .undef:=rfl
theorem keepT_rel [_KN:Know] {I I':Nat → Prop} {w w':World} {μ μ':MM} {k:Nat} (hI:∀ b,I b → I' b) (hw:∀ b,I b → w'.heap[b]? = w.heap[b]?) (hp:Pre k μ μ') {v:AV} {x:Value} (h:RelV I w μ v x):RelV I' w' μ' (keepT k v) x:=by
 have hpure:∀ v,RelV I w μ v x → RelV I' w' μ' (bif pureQ v then v else .undef) x:=by
  intro v hv
  cases hq:pureQ v with
  | true=>exact (pureQ_ok hq hv μ').mono hI hw
  | false=>exact .undef _ _
 cases v with
 | ptr o j =>
  show RelV I' w' μ' (bif Nat.blt o k then .ptr o j else .undef) x
  cases hb:Nat.blt o k with
  | false=>exact .undef _ _
  | true =>
   have ho:o < k:=Nat.le_of_ble_eq_true hb
   cases h with
   | ptrX _ _ _ _ hl =>
    rcases hp.2 o ho with e | e
    ·exact .ptrX _ o j _ (e.trans hl)
    ·exact .ptrX _ o j _ e
   | ptr _ _ _ l hl =>
    rcases hp.2 o ho with e | e
    ·exact .ptr _ o j l (MM.loc_some.2 (e.trans (MM.loc_some.1 hl)))
    ·exact .ptrX _ o j _ e
 | ref o a b =>
  show RelV I' w' μ' (bif Nat.blt o k then .ref o a b else .undef) x
  cases hb:Nat.blt o k with
  | false=>exact .undef _ _
  | true=>exact (ref_rel (hp.2 o (Nat.le_of_ble_eq_true hb)) h).mono hI hw
 | _=>exact hpure _ h
theorem look_map (f:AV → AV) (hf:f .undef = .undef) (d:Nat):∀ ts:List (Nat × AV),look d (ts.map fun p=>(p.1,f p.2)) = f (look d ts)
 | []=>hf.symm
 | (i,v) :: r=>by
  show (if i = d then f v else look d (r.map fun p=>(p.1,f p.2))) = f (if i = d then v else look d r)
  split
  ·rfl
  ·exact look_map f hf d r
theorem CallOK.hand [KN:Know] {P:Program} {n k:Nat} {g:FuncId} {args:List AV} {st:St} {K:St → AV → Prop} {R:AV → List AObj → Prop} (hn:n ≤ k) (h:ACallsK P g args st.h k R)
  (hK:∀ r h',R r h' → K ⟨st.n,st.ts.map (fun p=>(p.1,keepT k p.2)),h'⟩ r):CallOK P n g args st K:=by
 intro I μ a w vals Rl _ hv
 refine (h I μ w vals Rl.heap hv).mono ?_
 rintro e w' ⟨v,r,h',I',μ',rfl,hR,hH,hr,S,hp⟩
 refine ⟨v,r,I',μ',_,rfl,hK r h' hR,⟨fun d=>?_,Rl.size,Rl.defers,hH⟩,hr,S,hp.mono hn⟩
 have hd:=Rl.tmps d
 show RelV I' w' μ' (if d < st.n then look d (st.ts.map fun p=>(p.1,keepT k p.2)) else .undef) _
 unfold St.get at hd
 split
 ·rename_i h0
  rw [if_pos h0] at hd
  rw [look_map _ (keepT_undef k)]
  exact keepT_rel S.mono (S.keepI Rl.heap) hp hd
 ·exact .undef _ _
abbrev GivesK [KN:Know] (P:Program) (g:FuncId) (args:List AV) (hs:List AObj) (k:Nat) (v:AV) (hs':List AObj):Prop:=ACallsK P g args hs k (fun r h=>r = v ∧ h = hs')
theorem CallN.hand [KN:Know] {P:Program} {n k:Nat} {g:FuncId} {args:List AV} {st:St} {K:St → AV → Prop} {v:AV} {hs':List AObj} {ts':List (Nat × AV)} (h:GivesK P g args st.h k v hs') (hn:Nat.ble n k = true)
  (hts:st.ts.map (fun p=>(p.1,keepT k p.2)) = ts') (hK:K ⟨st.n,ts',hs'⟩ v):CallN P n g args st K :=
 ⟨CallOK.hand (Nat.le_of_ble_eq_true hn) h (by rintro r h' ⟨rfl,rfl⟩; rw [hts]; exact hK)⟩
theorem Returns.hand [_KN:Know] {P:Program} {n:Nat} {fn:Func} {R:AV → List AObj → Prop} {e:Exit} {st:St} {vs:List AV} {v:AV} {keep frz:List Nat} {m:Nat} {h':List AObj} (he:isEnd e = true) (hv:aresults P st fn.results.toList = some vs)
  (W:WH n st.h keep frz m h') (hr:WV st.h keep frz m (resultAV vs) v) (hR:R v h'):Returns P n fn R e st :=
 ⟨isEnd_ok he,vs,hv,keep,frz,m,v,h',W,hr,hR⟩
end Go.Q
