import Derived.Test.YtemmhailjfdfdaaGreatSB
import Derived.Test.YtemmhailjfdfdaaGreatAFE
namespace Go.Q
open Go
set_option maxRecDepth 100000
set_option maxHeartbeats 4000000
theorem letF {ρ:Type} {x:Bool} {A B:Option ρ} {r:Option ρ} (hx:x = false) (h:B = r):letk x (fun t=>bif t then A else B) = r:=by
  subst hx; exact h
theorem letT {ρ:Type} {x:Bool} {A B:Option ρ} {r:Option ρ} (hx:x = true) (h:A = r):letk x (fun t=>bif t then A else B) = r:=by
  subst hx; exact h
theorem letV {α ρ:Type} {x y:α} {X:α → Option ρ} {r:Option ρ} (hx:x = y) (h:X y = r):letk x X = r:=by
  subst hx; exact h
theorem bindE {α ρ:Type} {x:Option α} {a:α} {X:α → Option ρ} {r:Option ρ} (hx:x = some a) (h:X a = r):x.bind X = r:=by
  subst hx; exact h
theorem chkE {ρ:Type} {c:Prop} {X r:Option ρ} (hc:c) (h:X = r):chk c X = r:=by
  rw [chk_pos hc]; exact h
theorem loopO_run {σ ρ:Type} {step:σ → Option (σ ⊕ ρ)} {r:Option ρ} (f:Nat → σ) (N:Nat) (h:∀ i,i < N → step (f i) = some (.inl (f (i + 1)))) (hN:loopO step (f N) = r):loopO step (f 0) = r:=by
  have go:∀ m i,i + m = N → loopO step (f i) = r:=by
    intro m
    induction m with
    | zero =>
      intro i hi
      obtain rfl:i = N:=by omega
      exact hN
    | succ m ih=>intro i hi; rw [loopO_eq,h i (by omega)]; exact ih (i + 1) (by omega)
  exact go N 0 (by omega)
theorem loopO_end {σ ρ:Type} {step:σ → Option (σ ⊕ ρ)} {s:σ} {r:ρ} (h:step s = some (.inr r)):loopO step s = some r:=by
  rw [loopO_eq,h]; rfl
theorem anyA {l:List api.Array} {f:api.Array → Option Bool} {p:api.Array → Bool} (hf:∀ x ∈ l,f x = some (p x)) (hl:l.length < 100) (hp:∀ x ∈ l,p x = false) :
    Slcs.ContainsFunc___quadrat_api.Array_quadrat_api.Array_ l f = some false:=by
  unfold Slcs.ContainsFunc___quadrat_api.Array_quadrat_api.Array_ Slcs.IndexFunc___quadrat_api.Array_quadrat_api.Array_ Slcs.IndexFunc___quadrat_api.Array_quadrat_api.Array_.l0
  refine bindE (a:=-1) ?_ rfl
  refine letV rfl ?_
  refine loopO_run (fun i=>(i:Int)) l.length (fun i hi=>?_) ?_
  · unfold Slcs.IndexFunc___quadrat_api.Array_quadrat_api.Array_.s0
    refine letT (decide_eq_true (by omega)) (chkE (by omega) ?_)
    rw [Int.toNat_natCast,List.getElem?_eq_getElem hi,bindS,hf _ (List.getElem_mem hi),bindS,hp _ (List.getElem_mem hi),condF,wi (by omega) (by omega)]
    rfl
  · refine loopO_end ?_
    unfold Slcs.IndexFunc___quadrat_api.Array_quadrat_api.Array_.s0
    exact letF (decide_eq_false (by omega)) rfl
structure Good (a:api.Array):Prop where
  v:vldS a = true
  s:a.Shape.length ≤ 3
  e:a.Elems.length ≤ 4000
theorem good_of {a:api.Array} (v:vldS a = true):Good a:=by
  obtain ⟨_,_,h3,_⟩:=vld_facts v
  obtain ⟨h4,_,h5,h6⟩:=szS_three (l:=a.Shape) (by omega)
  exact ⟨v,h4,by omega⟩
theorem call1_of {a:api.Array} (h:Good a):Arr.Call_1 a = some false:=by
  unfold Arr.Call_1
  refine bindE (aValid_eq a (by have:=h.s; omega) (by have:=h.e; omega)) ?_
  rw [h.v]; rfl
theorem Call_j0 {nm:ByteArray} {args:List api.Array} {m:Int} (hA:Arr.Arity nm = some (m,m)) (h0:m ≠ 0) (hm:(args.length:Int) = m) (hl:args.length < 100) (hg:∀ a ∈ args,Good a):Arr.Call nm args = Arr.Call.j0 nm args 0 [] []:=by
  unfold Arr.Call
  refine bindE hA ?_
  refine letF (by rw [beq_eq_false_iff_ne]; exact h0) ?_
  refine letV rfl (letF (decide_eq_false (by omega)) ?_)
  refine letV rfl (letF (decide_eq_false (by omega)) ?_)
  exact bindE (anyA (p:=fun _=>false) (fun x hx=>call1_of (hg x hx)) hl (fun _ _=>rfl)) rfl
abbrev nCshift:ByteArray:=⟨#[99,115,104,105,102,116]⟩
abbrev nReshape:ByteArray:=⟨#[114,101,115,104,97,112,101]⟩
abbrev nTranspose:ByteArray:=⟨#[116,114,97,110,115,112,111,115,101]⟩
abbrev nSpread:ByteArray:=⟨#[115,112,114,101,97,100]⟩
abbrev nPack:ByteArray:=⟨#[112,97,99,107]⟩
abbrev nShape:ByteArray:=⟨#[115,104,97,112,101]⟩
theorem eta_call {x:Option (api.Array × Int)}:(x.bind fun p=>some ((⟨p.1.Kind,p.1.Shape,p.1.Elems⟩:api.Array),p.2)) = x:=by cases x <;> rfl
theorem eqL (s t:ByteArray):(s.toList == t.toList) = (L s == L t):=by rw [toList_L,toList_L]
theorem nfL {s t:ByteArray} (h:(L s == L t) = false):(s.toList == t.toList) = false:=by rw [eqL]; exact h
theorem ntL {s t:ByteArray} (h:(L s == L t) = true):(s.toList == t.toList) = true:=by rw [eqL]; exact h
theorem toRe {nm:ByteArray} {args:List api.Array} (h:(L nm = L nCshift ∨ L nm = L nReshape ∨ L nm = L nTranspose ∨ L nm = L nSpread ∨ L nm = L nPack)):Arr.Call.j0 nm args 0 [] [] = Arr.reshapes nm args:=by
  have key:∀ t:ByteArray,(L nCshift == L t) = false → (L nReshape == L t) = false → (L nTranspose == L t) = false → (L nSpread == L t) = false → (L nPack == L t) = false → (nm.toList == t.toList) = false:=by
    intro t h1 h2 h3 h4 h5
    refine nfL ?_
    rcases h with h | h | h | h | h <;> rw [h] <;> assumption
  unfold Arr.Call.j0
  iterate 8 refine letF (key _ rfl rfl rfl rfl rfl) ?_
  refine letV (key _ rfl rfl rfl rfl rfl) ?_
  unfold Arr.Call.j1
  rw [condF]
  iterate 8 refine letF (key _ rfl rfl rfl rfl rfl) ?_
  refine letV (key _ rfl rfl rfl rfl rfl) ?_
  unfold Arr.Call.j2
  rw [condF]
  refine letF (key _ rfl rfl rfl rfl rfl) ?_
  refine letV (key _ rfl rfl rfl rfl rfl) ?_
  unfold Arr.Call.j3
  rw [condF]
  exact eta_call
theorem Call_cshift {a b:api.Array} (ha:Good a) (hb:Good b):Arr.Call nCshift [a,b] = Arr.cshift a b:=by
  rw [Call_j0 (m:=2) ((Arr.Arity.c_le _).of (by kernel_rfl)) (by decide) rfl (by simp) (by simp [ha,hb]),toRe (.inl rfl)]
  unfold Arr.reshapes
  refine chkE (by decide) (bindE (a:=a) rfl ?_)
  refine letF (nfL rfl) (letF (nfL rfl) (letF (nfL rfl) (letT (ntL rfl) (chkE (by decide) (bindE (a:=b) rfl ?_)))))
  exact eta_call
theorem Call_reshape {a b:api.Array} (ha:Good a) (hb:Good b):Arr.Call nReshape [a,b] = Arr.reshape a b:=by
  rw [Call_j0 (m:=2) ((Arr.Arity.c_le _).of (by kernel_rfl)) (by decide) rfl (by simp) (by simp [ha,hb]),toRe (.inr (.inl rfl))]
  unfold Arr.reshapes
  refine chkE (by decide) (bindE (a:=a) rfl ?_)
  refine letT (ntL rfl) (chkE (by decide) (bindE (a:=b) rfl ?_))
  exact eta_call
theorem Call_spread {a b:api.Array} (ha:Good a) (hb:Good b):Arr.Call nSpread [a,b] = Arr.spread a b:=by
  rw [Call_j0 (m:=2) ((Arr.Arity.c_le _).of (by kernel_rfl)) (by decide) rfl (by simp) (by simp [ha,hb]),toRe (.inr (.inr (.inr (.inl rfl))))]
  unfold Arr.reshapes
  refine chkE (by decide) (bindE (a:=a) rfl ?_)
  refine letF (nfL rfl) (letF (nfL rfl) (letF (nfL rfl) (letF (nfL rfl) (letT (ntL rfl) (chkE (by decide) (bindE (a:=b) rfl ?_))))))
  exact eta_call
theorem Call_pack {a b:api.Array} (ha:Good a) (hb:Good b):Arr.Call nPack [a,b] = Arr.pack a b:=by
  rw [Call_j0 (m:=2) ((Arr.Arity.c_le _).of (by kernel_rfl)) (by decide) rfl (by simp) (by simp [ha,hb]),toRe (.inr (.inr (.inr (.inr rfl))))]
  unfold Arr.reshapes
  refine chkE (by decide) (bindE (a:=a) rfl ?_)
  refine letF (nfL rfl) (letF (nfL rfl) (letF (nfL rfl) (letF (nfL rfl) (letF (nfL rfl) (chkE (by decide) (bindE (a:=b) rfl ?_))))))
  exact eta_call
theorem Call_trans {a:api.Array} (ha:Good a):Arr.Call nTranspose [a] = Arr.reshapes nTranspose [a]:=by
  rw [Call_j0 (m:=1) ((Arr.Arity.c_le _).of (by kernel_rfl)) (by decide) rfl (by simp) (by simp [ha]),toRe (.inr (.inr (.inl rfl)))]
theorem Call_shape {a:api.Array} (ha:Good a) (hs:a.Shape ≠ []):Arr.Call nShape [a] = some (⟨1,[(a.Shape.length:Int)],a.Shape⟩,0):=by
  have hs0:0 < a.Shape.length:=List.length_pos_iff.2 hs
  have:=ha.s
  rw [Call_j0 (m:=1) ((Arr.Arity.c_le _).of (by kernel_rfl)) (by decide) rfl (by simp) (by simp [ha])]
  unfold Arr.Call.j0
  iterate 8 refine letF (nfL rfl) ?_
  refine letV (nfL rfl) ?_
  unfold Arr.Call.j1
  rw [condF]
  iterate 8 refine letF (nfL rfl) ?_
  refine letV (ntL rfl) ?_
  unfold Arr.Call.j2
  rw [condT]
  refine chkE (by decide) (bindE (a:=a) rfl ?_)
  refine (eta_call (x:=Arr.reduce nShape a)).trans ?_
  unfold Arr.reduce
  refine letF (nfL rfl) (letF (nfL rfl) (letV (nfL rfl) ?_))
  unfold Arr.reduce.j0
  refine letF (nfL rfl) (letV (ntL rfl) ?_)
  unfold Arr.reduce.j1
  rw [condF]
  unfold Arr.reduce.j8
  rw [condF]
  refine letT rfl (letF rfl ?_)
  unfold Arr.reduce.j6
  rw [condF]
  refine bindE (scalar_eq _) ?_
  rw [show decide ((⟨a.Kind,a.Shape,a.Elems⟩:api.Array).Shape.length = 0) = false from decide_eq_false (by show ¬ a.Shape.length = 0; omega),condF]
  unfold Arr.reduce.j7
  rw [condF]
  unfold Arr.reduce.j2
  refine letT (ntL rfl) (letV rfl (bindE (clone_ok (by omega)) ?_))
  rfl
end Go.Q
namespace Go.Q
open Go
set_option maxRecDepth 100000
set_option maxHeartbeats 4000000
theorem getD_at {l:List Int} {j:Nat} (h:j < l.length):l[j]? = some (l.getD j 0):=by
  rw [List.getElem?_eq_getElem h,List.getD_eq_getElem?_getD,List.getElem?_eq_getElem h]; rfl
def ixS (m:Nat) (n:Int) (i:Nat):Nat:=(((i:Int) + n) % (m:Int)).toNat
theorem ixS_lt {m i:Nat} {n:Int} (hm:0 < m):ixS m n i < m:=by
  have h1:=Int.emod_nonneg ((i:Int) + n) (show (m:Int) ≠ 0 by omega)
  have h2:=Int.emod_lt_of_pos ((i:Int) + n) (show (0:Int) < m by omega)
  unfold ixS; omega
def shiftL (l:List Int) (n:Int):List Int:=(List.range l.length).map fun i=>l.getD (ixS l.length n i) 0
theorem shiftL_len (l:List Int) (n:Int):(shiftL l n).length = l.length:=by unfold shiftL; rw [List.length_map,List.length_range]
theorem shiftL_at {l:List Int} {n:Int} {i:Nat} (hi:i < l.length):(shiftL l n).getD i 0 = l.getD (ixS l.length n i) 0:=by
  unfold shiftL
  rw [List.getD_eq_getElem?_getD,List.getElem?_map,List.getElem?_range hi]; rfl
theorem list_ext {l k:List Int} (h:l.length = k.length) (g:∀ i,i < l.length → l.getD i 0 = k.getD i 0):l = k:=by
  apply List.ext_getElem h
  intro i h1 h2
  have:=g i h1
  rwa [List.getD_eq_getElem?_getD,List.getD_eq_getElem?_getD,List.getElem?_eq_getElem h1,List.getElem?_eq_getElem h2] at this
theorem shift_back (l:List Int) (n:Int):shiftL (shiftL l n) (-n) = l:=by
  refine list_ext (by rw [shiftL_len,shiftL_len]) (fun i hi=>?_)
  rw [shiftL_len,shiftL_len] at hi
  have hm:0 < l.length:=by omega
  rw [shiftL_at (by rw [shiftL_len]; exact hi),shiftL_len,shiftL_at (ixS_lt hm)]
  congr 1
  have h1:=Int.emod_nonneg ((i:Int) + -n) (show (l.length:Int) ≠ 0 by omega)
  unfold ixS
  rw [Int.toNat_of_nonneg h1,Int.emod_add_emod,show (i:Int) + -n + n = i by omega,Int.emod_eq_of_lt (by omega) (by omega)]
  omega
theorem tmod_gt {x m:Int} (hm:0 < m):-m < x.tmod m:=by
  rcases Int.le_total 0 x with h | h
  · rw [Int.tmod_eq_emod_of_nonneg h]; have:=Int.emod_nonneg x (show m ≠ 0 by omega); omega
  · have e:x = -(-x):=by omega
    rw [e,Int.neg_tmod]
    have:=Int.tmod_lt_of_pos (-x) hm
    omega
theorem tmod_pos {x m:Int} (hm:0 < m):(x.tmod m + m).tmod m = x % m:=by
  have h0:=Int.tmod_lt_of_pos x hm
  have h1:=tmod_gt (x:=x) hm
  rw [Int.tmod_eq_emod_of_nonneg (by omega),Int.add_emod_right]
  rw [Int.tmod_def,Int.sub_eq_add_neg,← Int.mul_neg,Int.add_mul_emod_self_left]
theorem cshift_s0 (K:Int) (S l:List Int) (n:Int) (hl:l.length ≤ 4000) (hn:-1000 ≤ n ∧ n ≤ 1000) (i:Nat) (hi:i < l.length) :
    Arr.cshift.s0 l.length K S l 1 [] [n] 0 [] [] K S ((List.range i).map fun i=>l.getD (ixS l.length n i) 0) (i:Int) =
      some (.inl (K,S,l,1,[],[n],0,[],[],K,S,(List.range (i + 1)).map fun i=>l.getD (ixS l.length n i) 0,((i + 1:Nat):Int))):=by
  have hm:(0:Int) < (l.length:Int):=by omega
  have hj:ixS l.length n i < l.length:=ixS_lt (by omega)
  have t1:=Int.tmod_lt_of_pos ((i:Int) + n) hm
  have t2:=tmod_gt (x:=(i:Int) + n) hm
  unfold Arr.cshift.s0
  refine letT (decide_eq_true (by omega)) (chkE (by decide) (bindE (a:=n) rfl (letV (wi (by omega) (by omega)) (chkE (by omega) (letV rfl (letV (wi (by omega) (by omega)) (chkE (by omega) (letV (tmod_pos hm) ?_))))))))
  have e:(((i:Int) + n) % (l.length:Int)).toNat = ixS l.length n i:=rfl
  refine chkE (Int.emod_nonneg _ (by omega)) (bindE (by rw [e]; exact getD_at hj) (chkE (by simp; omega) (letV rfl (letV (wi (by omega) (by omega)) ?_))))
  rw [List.range_succ,List.map_append]; rfl
theorem cshift_l0 (K:Int) (S l:List Int) (n:Int) (hl:l.length ≤ 4000) (hn:-1000 ≤ n ∧ n ≤ 1000) :
    Arr.cshift.l0 l.length K S l 1 [] [n] 0 [] [] K S [] 0 = some (⟨K,S,shiftL l n⟩,0):=by
  unfold Arr.cshift.l0
  refine loopO_run (fun i=>(K,S,l,1,[],[n],0,[],[],K,S,(List.range i).map fun i=>l.getD (ixS l.length n i) 0,(i:Int))) l.length (cshift_s0 K S l n hl hn) ?_
  refine loopO_end ?_
  show Arr.cshift.s0 _ _ _ _ _ _ _ _ _ _ _ _ _ _ = _
  unfold Arr.cshift.s0
  exact letF (decide_eq_false (by show ¬ (l.length:Int) < (l.length:Int); omega)) rfl
theorem cshift_eq {K:Int} {S l:List Int} {n:Int} (hS:S.length = 1) (hl:l.length ≤ 4000) (hn:-1000 ≤ n ∧ n ≤ 1000) :
    Arr.cshift ⟨K,S,l⟩ ⟨1,[],[n]⟩ = some (⟨K,S,shiftL l n⟩,0):=by
  unfold Arr.cshift
  refine letF rfl (letV rfl (letF (by rw [show ((⟨K,S,l⟩:api.Array).Shape.length:Int) = 1 by show (S.length:Int) = 1; omega]; rfl) (bindE (scalar_eq _) (letV (y:=false) rfl ?_))))
  unfold Arr.cshift.j1
  rw [condF]
  unfold Arr.cshift.j0
  exact letV rfl (bindE (clone_ok (by show S.length ≤ 50; omega)) (cshift_l0 K S l n hl hn))
theorem pack_eq {K:Int} {S l:List Int} (hS:S ≠ []) (hl:l.length ≤ 4000):Arr.pack ⟨K,S,l⟩ ⟨2,[],[1]⟩ = some (⟨K,[(l.length:Int)],l⟩,0):=by
  unfold Arr.pack
  refine letF rfl (bindE (scalar_eq _) ?_)
  rw [show decide ((⟨K,S,l⟩:api.Array).Shape.length = 0) = false from decide_eq_false (by show ¬ S.length = 0; rw [List.length_eq_zero_iff]; exact hS),condF]
  refine bindE (scalar_eq _) (letF rfl ?_)
  unfold Arr.pack.j1
  rw [condF]
  unfold Arr.pack.j0
  refine letV rfl ?_
  unfold Arr.pack.l0
  refine loopO_run (fun i=>(2,[],[1],0,[],[],K,[],l.take i,(i:Int))) l.length (fun i hi=>?_) ?_
  · show Arr.pack.s0 _ _ _ _ _ _ _ _ _ _ _ _ = _
    unfold Arr.pack.s0
    refine letT (decide_eq_true (by show (i:Int) < (l.length:Int); omega)) (chkE (by show (0:Int) ≤ (i:Int); omega) (bindE (by rw [Int.toNat_natCast]; exact List.getElem?_eq_getElem hi) ?_))
    refine bindE (aAt_eq (a:=⟨2,[],[1]⟩) (i:=i) (by show 0 < 1; decide)) (letT rfl (chkE (by simp; omega) (letV rfl (letV (y:=((i + 1:Nat):Int)) (wi (by show _ ≤ (i:Int) + 1; omega) (by show (i:Int) + 1 < _; omega)) ?_))))
    rw [List.take_succ_eq_append_getElem hi]
  · refine loopO_end ?_
    show Arr.pack.s0 _ _ _ _ _ _ _ _ _ _ _ _ = _
    unfold Arr.pack.s0
    refine letF (decide_eq_false (by show ¬ (l.length:Int) < (l.length:Int); omega)) ?_
    rw [List.take_length]; rfl
theorem min_l0 (l:List Int) (hl:l.length < 100):∀ (k i:Nat) (m:Int),i + k = l.length → 0 ≤ m → (∀ x ∈ l,0 ≤ x) → ∃ r,Slcs.Min___int_int_.l0 l m (i:Int) = some r ∧ 0 ≤ r:=by
  intro k
  induction k with
  | zero =>
    intro i m hi hm _
    refine ⟨m,?_,hm⟩
    unfold Slcs.Min___int_int_.l0
    refine loopO_end ?_
    show Slcs.Min___int_int_.s0 _ _ _ = _
    unfold Slcs.Min___int_int_.s0
    exact letV rfl (letF (decide_eq_false (by omega)) rfl)
  | succ k ih =>
    intro i m hi hm hx
    have hil:i < l.length:=by omega
    obtain ⟨r,h1,h2⟩:=ih (i + 1) (if l[i] < m then l[i] else m) (by omega) (by have:=hx _ (List.getElem_mem hil); split <;> omega) hx
    refine ⟨r,?_,h2⟩
    unfold Slcs.Min___int_int_.l0
    rw [loopO_eq]
    refine bindE (a:=.inl (if l[i] < m then l[i] else m,((i + 1:Nat):Int))) ?_ ?_
    rotate_left
    · exact h1
    show Slcs.Min___int_int_.s0 _ _ _ = _
    unfold Slcs.Min___int_int_.s0
    refine letV rfl (letT (decide_eq_true (by omega)) (chkE (by omega) (bindE (by rw [Int.toNat_natCast]; exact List.getElem?_eq_getElem hil) (letV rfl (letV (wi (by omega) (by omega)) rfl)))))
theorem min_ok {l:List Int} (h0:l ≠ []) (hl:l.length < 100) (hx:∀ x ∈ l,0 ≤ x):∃ r,Slcs.Min___int_int_ l = some r ∧ 0 ≤ r:=by
  have hl0:0 < l.length:=List.length_pos_iff.2 h0
  obtain ⟨r,h1,h2⟩:=min_l0 l hl (l.length - 1) 1 l[0] (by omega) (hx _ (List.getElem_mem hl0)) hx
  refine ⟨r,?_,h2⟩
  unfold Slcs.Min___int_int_
  refine letV rfl (letF (decide_eq_false (by omega)) ?_)
  unfold Slcs.Min___int_int_.j0
  exact chkE (by decide) (bindE (List.getElem?_eq_getElem hl0) h1)
theorem reshape_eq {K c:Int} {S l:List Int} (hS:S ≠ []) (h3:S.length ≤ 3) (hx:∀ x ∈ S,0 ≤ x) (hz:szS S = l.length) (hl:l.length ≤ 4000) (hc:c = S.length) :
    Arr.reshape ⟨K,S,l⟩ ⟨1,[c],S⟩ = some (⟨K,S,l⟩,0):=by
  have hS0:0 < S.length:=List.length_pos_iff.2 hS
  obtain ⟨r,h1,h2⟩:=min_ok hS (by omega) hx
  unfold Arr.reshape
  refine letF rfl (letV rfl (letF rfl (letV rfl (letF (decide_eq_false (by show ¬ (S.length:Int) < 1; omega)) (letV rfl (letF (decide_eq_false (by show ¬ (S.length:Int) > 3; omega)) ?_))))))
  refine bindE h1 (letV (decide_eq_false (by omega)) ?_)
  unfold Arr.reshape.j3
  rw [condF]
  unfold Arr.reshape.j0
  refine bindE (aSize_eq (by show S.length < _; omega)) ?_
  rw [hz]
  refine letF (decide_eq_false (by omega)) (letV rfl (letV (decide_eq_false (by show ¬ ((l.length:Int) > (l.length:Int)); omega)) ?_))
  unfold Arr.reshape.j2
  rw [condF]
  unfold Arr.reshape.j1
  refine bindE (clone_ok (by show S.length ≤ 50; omega)) (chkE ⟨by omega,by show (l.length:Int) ≤ (l.length:Int); omega⟩ (letV (y:=l) (by show (l.drop 0).take ((l.length:Int).toNat - 0) = l; simp) ?_))
  unfold Slcs.Clone___int_int_
  rw [chk_pos (by omega)]; rfl
end Go.Q
namespace Go.Q
open Go
set_option maxRecDepth 100000
set_option maxHeartbeats 4000000
def rowT (r:Nat) (l:List Int) (i n:Nat):List Int:=(List.range n).map fun k=>l.getD (i + k * r) 0
def trp (r c:Nat) (l:List Int) (n:Nat):List Int:=(List.range n).flatMap fun i=>rowT r l i c
theorem rowT_len (r:Nat) (l:List Int) (i n:Nat):(rowT r l i n).length = n:=by unfold rowT; rw [List.length_map,List.length_range]
theorem trp_succ (r c:Nat) (l:List Int) (n:Nat):trp r c l (n + 1) = trp r c l n ++ rowT r l n c:=by
  unfold trp; rw [List.range_succ,List.flatMap_append]; simp
theorem trp_len (r c:Nat) (l:List Int):∀ n,(trp r c l n).length = n * c
  | 0=>by simp [trp]
  | n + 1=>by rw [trp_succ,List.length_append,rowT_len,trp_len r c l n,Nat.succ_mul]
theorem trp_at (r c:Nat) (l:List Int):∀ n i k,i < n → k < c → (trp r c l n).getD (i * c + k) 0 = l.getD (i + k * r) 0
  | 0,i,k,h,_=>by omega
  | n + 1,i,k,h,hk=>by
    rw [trp_succ]
    by_cases e:i = n
    · subst e
      rw [List.getD_eq_getElem?_getD,List.getElem?_append_right (by rw [trp_len]; omega),trp_len,Nat.add_sub_cancel_left]
      unfold rowT
      rw [List.getElem?_map,List.getElem?_range hk]; rfl
    · have hlt:(i + 1) * c ≤ n * c:=Nat.mul_le_mul_right _ (by omega)
      rw [Nat.succ_mul] at hlt
      rw [List.getD_eq_getElem?_getD,List.getElem?_append_left (by rw [trp_len]; omega),← List.getD_eq_getElem?_getD]
      exact trp_at r c l n i k (by omega) hk
theorem trp_back {r c:Nat} {l:List Int} (h:l.length = r * c):trp c r (trp r c l r) c = l:=by
  refine list_ext (by rw [trp_len,h,Nat.mul_comm]) (fun j hj=>?_)
  rw [trp_len] at hj
  have hr:0 < r:=by
    rcases Nat.eq_zero_or_pos r with e | e
    · subst e; simp at hj
    · exact e
  have h1:j / r < c:=by rw [Nat.div_lt_iff_lt_mul hr]; exact hj
  have h2:j % r < r:=Nat.mod_lt _ hr
  have e:j = (j / r) * r + j % r:=by rw [Nat.mul_comm]; exact (Nat.div_add_mod j r).symm
  rw [show (trp c r (trp r c l r) c).getD j 0 = (trp c r (trp r c l r) c).getD ((j / r) * r + j % r) 0 by rw [← e],trp_at c r _ c _ _ h1 h2]
  rw [show j / r + j % r * c = j % r * c + j / r by omega,trp_at r c l r _ _ h2 h1]
  rw [show j % r + j / r * r = j by omega]
theorem tr_s1 {K r c:Int} {l out:List Int} {R C i k:Nat} (hr:r = R) (hc:c = C) (hl:l.length = R * C) (hi:i < R) (hk:k < C) (h4:R * C ≤ 4000) (ho:out.length ≤ 8000) (hC:C ≤ 4000) :
    Arr.reshapes.s1 r (i:Int) c 0 [] [] K [r,c] l K [c,r] out (k:Int) = some (.inl (0,[],[],K,[r,c],l,K,[c,r],out ++ [l.getD (i + k * R) 0],((k + 1:Nat):Int))):=by
  have hle:(k + 1) * R ≤ C * R:=Nat.mul_le_mul_right _ (by omega)
  rw [Nat.succ_mul,Nat.mul_comm C R] at hle
  have hm:(k:Int) * r = ((k * R:Nat):Int):=by rw [hr]; push_cast; rfl
  unfold Arr.reshapes.s1
  refine letT (decide_eq_true (by omega)) (chkE (by decide) (bindE (a:=r) rfl (letV (y:=((k * R:Nat):Int)) (by rw [hm]; exact wi (by omega) (by omega)) (letV (y:=((i + k * R:Nat):Int)) ?_ ?_))))
  · rw [wi (by omega) (by omega)]; push_cast; rfl
  · refine chkE (by omega) (bindE (by rw [Int.toNat_natCast]; exact getD_at (by omega)) (chkE (by simp; omega) (letV rfl (letV (wi (by omega) (by omega)) rfl))))
theorem tr_l1 {K r c:Int} {l out:List Int} {R C i:Nat} (hr:r = R) (hc:c = C) (hl:l.length = R * C) (hi:i < R) (h4:R * C ≤ 4000) (ho:out.length + C ≤ 8000) (hC:C ≤ 4000) (hR:R ≤ 4000) :
    Arr.reshapes.l1 r (i:Int) c 0 [] [] K [r,c] l K [c,r] out 0 = some (.inl (0,[],[],K,[r,c],l,K,[c,r],out ++ rowT R l i C,((i + 1:Nat):Int))):=by
  unfold Arr.reshapes.l1
  have h0:out = out ++ rowT R l i 0:=by simp [rowT]
  refine Eq.trans ?_ (loopO_run (step:=(fun v:Int × (List Int) × (List Int) × Int × (List Int) × (List Int) × Int × (List Int) × (List Int) × Int=>Arr.reshapes.s1 r (i:Int) c v.1 v.2.1 v.2.2.1 v.2.2.2.1 v.2.2.2.2.1 v.2.2.2.2.2.1 v.2.2.2.2.2.2.1 v.2.2.2.2.2.2.2.1 v.2.2.2.2.2.2.2.2.1 v.2.2.2.2.2.2.2.2.2))
    (fun k=>(0,[],[],K,[r,c],l,K,[c,r],out ++ rowT R l i k,(k:Int))) C (fun k hk=>?_) (loopO_end ?_))
  · show loopO _ _ = loopO _ (0,[],[],K,[r,c],l,K,[c,r],out ++ rowT R l i 0,((0:Nat):Int))
    rw [← h0]; rfl
  · refine (tr_s1 hr hc hl hi hk h4 (by rw [List.length_append,rowT_len]; omega) hC).trans ?_
    rw [List.append_assoc]
    unfold rowT
    rw [List.range_succ,List.map_append]; rfl
  · show Arr.reshapes.s1 _ _ _ _ _ _ _ _ _ _ _ _ _ = _
    unfold Arr.reshapes.s1
    refine letF (decide_eq_false (by show ¬ (C:Int) < c; omega)) ?_
    rw [show letk (IntKind.i64.wrap ((i:Int) + 1)) (fun t74=>some (Sum.inl (0,[],[],K,[r,c],l,K,[c,r],out ++ rowT R l i C,t74)) (α:=(Int × (List Int) × (List Int) × Int × (List Int) × (List Int) × Int × (List Int) × (List Int) × Int) ⊕ (api.Array × Int))) = some (.inl (0,[],[],K,[r,c],l,K,[c,r],out ++ rowT R l i C,((i + 1:Nat):Int))) from letV (wi (by omega) (by omega)) rfl]
    rfl
theorem trans_eq {K r c:Int} {l:List Int} {R C:Nat} (hr:r = R) (hc:c = C) (hl:l.length = R * C) (h4:R * C ≤ 4000) (hR:R ≤ 4000) (hC:C ≤ 4000) :
    Arr.reshapes nTranspose [⟨K,[r,c],l⟩] = some (⟨K,[c,r],trp R C l R⟩,0):=by
  unfold Arr.reshapes
  refine chkE (by decide) (bindE (a:=⟨K,[r,c],l⟩) rfl (letF (nfL rfl) (letT (ntL rfl) (letV rfl (letF rfl (chkE (by decide) (bindE (a:=c) rfl (chkE (by decide) (bindE (a:=r) rfl (chkE (by decide) (bindE (a:=r) rfl ?_)))))))))))
  unfold Arr.reshapes.l0
  refine loopO_run (fun i=>(0,[],[],K,[r,c],l,K,[c,r],trp R C l i,(i:Int))) R (fun i hi=>?_) (loopO_end ?_)
  · show Arr.reshapes.s0 _ _ _ _ _ _ _ _ _ _ _ = _
    have hle:(i + 1) * C ≤ R * C:=Nat.mul_le_mul_right _ hi
    rw [Nat.succ_mul] at hle
    unfold Arr.reshapes.s0
    refine letT (decide_eq_true (by show (i:Int) < r; omega)) (chkE (by decide) (bindE (a:=c) rfl ?_))
    refine (tr_l1 hr hc hl hi h4 (by rw [trp_len]; omega) hC hR).trans ?_
    rw [← trp_succ]
  · show Arr.reshapes.s0 _ _ _ _ _ _ _ _ _ _ _ = _
    unfold Arr.reshapes.s0
    exact letF (decide_eq_false (by show ¬ (R:Int) < r; omega)) rfl
theorem rep_l0 {N:Nat} (hN:N ≤ 4000):∀ (k n:Nat) (z:List Int),z.length = N → 0 < n ∨ N = 0 → n ≤ N → N - n ≤ k → ∃ y,Slcs.Repeat___int_int_.l0 z (n:Int) = some y ∧ y.length = N:=by
  intro k
  induction k with
  | zero =>
    intro n z hz h0 hn hk
    refine ⟨z,?_,hz⟩
    unfold Slcs.Repeat___int_int_.l0
    refine loopO_end ?_
    show Slcs.Repeat___int_int_.s0 z (n:Int) = _
    unfold Slcs.Repeat___int_int_.s0
    exact letV rfl (letF (decide_eq_false (by omega)) rfl)
  | succ k ih =>
    intro n z hz h0 hn hk
    rcases Nat.eq_or_lt_of_le hn with e | e
    · exact ih n z hz h0 hn (by omega)
    · obtain ⟨m,hm⟩:∃ m,m = min (n - 0) (N - n):=⟨_,rfl⟩
      obtain ⟨z',hz'⟩:∃ z',z' = spl z (0 + n) (((z.drop (0 + 0)).take (n - 0)).take m):=⟨_,rfl⟩
      have hl:z'.length = N:=by rw [hz',spl_len (len:=N - n) (a:=n - 0) (by omega) hm]; exact hz
      obtain ⟨y,h1,h2⟩:=ih (n + m) z' hl (by omega) (by omega) (by omega)
      refine ⟨y,?_,h2⟩
      unfold Slcs.Repeat___int_int_.l0
      rw [loopO_eq]
      refine bindE (a:=.inl (z',((n + m:Nat):Int))) ?_ ?_
      rotate_left
      · exact h1
      show Slcs.Repeat___int_int_.s0 z (n:Int) = _
      unfold Slcs.Repeat___int_int_.s0
      refine letV rfl (letT (decide_eq_true (by omega)) (chkE (by rw [List.length_map]; omega) (chkE (by rw [List.length_map]; omega) (chkE (by rw [Int.toNat_natCast]; omega) (chkE (by rw [Int.toNat_natCast]; omega) ?_)))))
      rw [Int.toNat_natCast,hz]
      refine letV hm.symm (letV hz'.symm (letV (wi (by omega) (by omega)) ?_))
      push_cast; rfl
theorem rep_eq {l:List Int} {c:Nat} (h:l.length * c ≤ 4000) (hl:l.length ≤ 4000) (hc:c ≤ 4000):∃ y,Slcs.Repeat___int_int_ l (c:Int) = some y ∧ y.length = l.length * c:=by
  obtain ⟨t,ht⟩:∃ t:List Int,t = List.replicate (l.length * c) 0:=⟨_,rfl⟩
  have htl:t.length = l.length * c:=by rw [ht,List.length_replicate]
  obtain ⟨m,hm⟩:∃ m,m = min l.length t.length:=⟨_,rfl⟩
  have hpos:0 < m ∨ l.length * c = 0:=by
    rcases Nat.eq_zero_or_pos (l.length * c) with e | e
    · exact .inr e
    · have:0 < l.length:=Nat.pos_of_mul_pos_right e
      omega
  obtain ⟨y,h1,h2⟩:=rep_l0 h (l.length * c) m (spl t 0 (l.take m)) (by rw [spl_len (len:=t.length) (a:=l.length) (by omega) hm,htl]) hpos (by omega) (by omega)
  refine ⟨y,?_,h2⟩
  have e0:((l.length:Int)) * (c:Int) = ((l.length * c:Nat):Int):=by push_cast; rfl
  unfold Slcs.Repeat___int_int_
  refine letF (decide_eq_false (by omega)) ?_
  unfold Slcs.Repeat___int_int_.j0
  refine letV rfl (letV (wu (by omega) (by omega)) (letV (wu (by omega) (by omega)) (bindE (a:=(0,((l.length * c:Nat):Int))) ?_ ?_)))
  · unfold Bits.Mul
    rw [chk_pos (by omega),e0]
    congr 2 <;> omega
  · refine letF rfl (letV (decide_eq_false (by omega)) ?_)
    unfold Slcs.Repeat___int_int_.j2
    rw [condF]
    unfold Slcs.Repeat___int_int_.j1
    refine letV (wi (by omega) (by omega)) (chkE (by omega) (letV (y:=t) (by rw [Int.toNat_natCast,ht]) (chkE (by omega) (letV hm.symm (letV rfl h1)))))
theorem prodL_app (l:List Int) (n:Int):prodL (l ++ [n]) = prodL l * n:=by unfold prodL; rw [List.foldl_append]; rfl
theorem spread_eq {K n:Int} {S l:List Int} (hS:S.length ≤ 2) (hx:∀ x ∈ S,0 ≤ x ∧ x ≤ 4000) (hp:prodL S = l.length) (hl:l.length ≤ 400) (hn:0 ≤ n ∧ n ≤ 9) :
    ∃ y,Arr.spread ⟨K,S,l⟩ ⟨1,[],[n]⟩ = some (⟨K,S ++ [n],y⟩,0) ∧ (y.length:Int) = n * l.length:=by
  obtain ⟨c,rfl⟩:∃ c:Nat,n = c:=⟨n.toNat,by omega⟩
  have hb:l.length * c ≤ 400 * 9:=Nat.mul_le_mul hl (by omega)
  obtain ⟨y,h1,h2⟩:=rep_eq (l:=l) (c:=c) (by omega) (by omega) (by omega)
  refine ⟨y,?_,by rw [h2]; push_cast; rw [Int.mul_comm]⟩
  unfold Arr.spread
  refine letF rfl (letV rfl (letF (decide_eq_false (by show ¬ (S.length:Int) > 2; omega)) (bindE (scalar_eq _) (letV (y:=false) rfl ?_))))
  unfold Arr.spread.j1
  rw [condF]
  refine chkE (by decide) (bindE (a:=(c:Int)) rfl (letF (decide_eq_false (by omega)) (chkE (by decide) (bindE (a:=(c:Int)) rfl (letV (decide_eq_false (by omega)) ?_)))))
  unfold Arr.spread.j2
  rw [condF]
  unfold Arr.spread.j0
  have hz:szS (S ++ [(c:Int)]) = prodL S * c:=by
    unfold szS
    rw [if_neg,prodL_app,if_neg]
    · rw [hp]
      have:((l.length:Int)) * (c:Int) = ((l.length * c:Nat):Int):=by push_cast; rfl
      omega
    · rintro (h | h)
      · rw [List.length_append] at h; simp at h; omega
      · rw [List.any_eq_true] at h
        obtain ⟨x,hm,hb⟩:=h
        unfold badX at hb
        simp only [Bool.or_eq_true,decide_eq_true_eq] at hb
        rcases List.mem_append.1 hm with q | q
        · have:=hx x q; omega
        · simp at q; omega
  refine bindE (clone_ok (by show S.length ≤ 50; omega)) (chkE (by decide) (bindE (a:=(c:Int)) rfl (chkE (by simp; omega) (letV rfl (bindE (aSize_eq (by simp; omega)) ?_)))))
  have e0:(l.length:Int) * (c:Int) = ((l.length * c:Nat):Int):=by push_cast; rfl
  refine letF (decide_eq_false (by show ¬ (szS (S ++ [(c:Int)]) < 0); rw [hz,hp]; omega)) (chkE (by decide) (bindE (a:=(c:Int)) rfl (bindE h1 rfl)))
end Go.Q
namespace Go.Q
open Go
set_option maxRecDepth 100000
set_option maxHeartbeats 4000000
theorem good_sc {k n:Int} (h1:1 ≤ k) (h4:k ≤ 4) (hv:ValB k n):Good ⟨k,[],[n]⟩:=by
  refine ⟨?_,by simp,by simp⟩
  unfold vldS
  simp only [Bool.and_eq_true,decide_eq_true_eq,List.all_eq_true]
  refine ⟨h1,h4,rfl,fun x hx=>?_⟩
  rw [List.mem_singleton] at hx; subst hx; exact dV_iff.2 hv
theorem good_same {a:api.Array} (h:Good a) {S l:List Int} (hs:S.length ≤ 3) (hz:szS S = l.length) (hl:l.length = a.Elems.length) (hm:∀ x ∈ l,x ∈ a.Elems):Good ⟨a.Kind,S,l⟩:=by
  obtain ⟨h1,h2,_,h4⟩:=vld_facts h.v
  refine ⟨?_,hs,by show l.length ≤ 4000; rw [hl]; exact h.e⟩
  unfold vldS
  simp only [Bool.and_eq_true,decide_eq_true_eq,List.all_eq_true]
  exact ⟨h1,h2,hz,fun x hx=>dV_iff.2 (h4 x (hm x hx))⟩
theorem getD_mem {l:List Int} {j:Nat} (h:j < l.length):l.getD j 0 ∈ l:=by
  rw [List.getD_eq_getElem?_getD,List.getElem?_eq_getElem h]; exact List.getElem_mem h
theorem same_eq {K:Int} {S l:List Int} (hS:S.length ≤ 50) (hl:l.length ≤ 400):Arr.Same ⟨K,S,l⟩ ⟨K,S,l⟩ = some true:=Same_self hS hl
variable {a:api.Array}
theorem int_ok {n:Int} (hn:-1000 ≤ n ∧ n ≤ 1000):Good ⟨1,[],[n]⟩:=good_sc (by decide) (by decide) (.inl ⟨rfl,by omega,by omega⟩)
theorem turned_j1 (h:Good a) (he:a.Elems.length ≤ 400) {n:Int} (hn:-1000 ≤ n ∧ n ≤ 1000):Law7.turned.j1 n a.Kind a.Shape a.Elems = some true:=by
  unfold Law7.turned.j1
  refine letV rfl ?_
  by_cases h2:a.Shape.length ≤ 2
  · refine letF (decide_eq_false (by omega)) ?_
    by_cases q0:n < 0
    · exact letT (decide_eq_true q0) rfl
    · refine letF (decide_eq_false q0) ?_
      by_cases q9:n > 9
      · exact letT (decide_eq_true q9) rfl
      · refine letF (decide_eq_false q9) ?_
        obtain ⟨_,_,v3,_⟩:=vld_facts h.v
        obtain ⟨_,z2,z3,_⟩:=szS_three (l:=a.Shape) (by omega)
        obtain ⟨y,y1,y2⟩:=spread_eq (K:=a.Kind) (n:=n) (S:=a.Shape) (l:=a.Elems) h2 z2 (by omega) he (by omega)
        unfold Law7.turned.j2
        have e:=(Call_spread (a:=⟨a.Kind,a.Shape,a.Elems⟩) h (int_ok hn)).trans y1
        refine bindE (a:=⟨1,[],[n]⟩) rfl ?_
        refine bindE e ?_
        refine letT rfl (letV rfl (letV rfl (letV (wi ?_ ?_) (letV ?_ rfl))))
        · have:0 ≤ n * (a.Elems.length:Int):=Int.mul_nonneg (by omega) (by omega)
          omega
        · have:n * (a.Elems.length:Int) ≤ 9 * 400:=by
            have e1:n * (a.Elems.length:Int) ≤ 9 * (a.Elems.length:Int):=Int.mul_le_mul_of_nonneg_right (by omega) (by omega)
            omega
          omega
        · rw [beq_iff_eq]; exact y2
  · exact letT (decide_eq_true (by omega)) rfl
theorem turned_j0 (h:Good a) (he:a.Elems.length ≤ 400) {n:Int} (hn:-1000 ≤ n ∧ n ≤ 1000):Law7.turned.j0 n a.Kind a.Shape a.Elems = some true:=by
  unfold Law7.turned.j0
  refine letV rfl ?_
  by_cases h1:a.Shape.length = 1
  · refine letT (by rw [beq_iff_eq]; omega) ?_
    obtain ⟨_,_,v3,_⟩:=vld_facts h.v
    have g2:Good ⟨a.Kind,a.Shape,shiftL a.Elems n⟩:=good_same h h.s (by rw [shiftL_len]; exact v3) (shiftL_len _ _) (fun x hx=>by
      unfold shiftL at hx
      rw [List.mem_map] at hx
      obtain ⟨i,hi,rfl⟩:=hx
      rw [List.mem_range] at hi
      exact getD_mem (ixS_lt (by omega)))
    have e1:=(Call_cshift (a:=⟨a.Kind,a.Shape,a.Elems⟩) h (int_ok hn)).trans (cshift_eq h1 h.e hn)
    have e2:=(Call_cshift (a:=⟨a.Kind,a.Shape,shiftL a.Elems n⟩) g2 (int_ok (n:=-n) (by omega))).trans (cshift_eq h1 (by rw [shiftL_len]; exact h.e) (by omega))
    refine bindE (a:=⟨1,[],[n]⟩) rfl ?_
    refine bindE e1 ?_
    refine letV (y:=-n) ((wi (by omega) (by omega)).trans (by omega)) ?_
    refine bindE (a:=⟨1,[],[-n]⟩) rfl ?_
    refine bindE e2 ?_
    refine letF rfl (letF rfl ?_)
    rw [shift_back]
    refine bindE (same_eq (by have:=h.s; show a.Shape.length ≤ 50; omega) he) (letF rfl (turned_j1 h he hn))
  · exact letF (by rw [beq_eq_false_iff_ne]; omega) (turned_j1 h he hn)
theorem mem_trp {r c:Nat} {l:List Int} (hl:l.length = r * c) {x:Int} (hx:x ∈ trp r c l r):x ∈ l:=by
  unfold trp at hx
  rw [List.mem_flatMap] at hx
  obtain ⟨i,hi,hx⟩:=hx
  rw [List.mem_range] at hi
  unfold rowT at hx
  rw [List.mem_map] at hx
  obtain ⟨k,hk,rfl⟩:=hx
  rw [List.mem_range] at hk
  refine getD_mem ?_
  have hle:(k + 1) * r ≤ c * r:=Nat.mul_le_mul_right _ hk
  rw [Nat.succ_mul,Nat.mul_comm c r] at hle
  omega
theorem turned_eq (h:Good a) (he:a.Elems.length ≤ 400) {n:Int} (hn:-1000 ≤ n ∧ n ≤ 1000):Law7.turned a n = some true:=by
  unfold Law7.turned
  refine letV rfl ?_
  by_cases h2:a.Shape.length = 2
  · refine letT (by rw [beq_iff_eq]; omega) ?_
    obtain ⟨K,S,l⟩:=a
    obtain ⟨v1,v2,v3,v4⟩:=vld_facts h.v
    obtain ⟨_,z2,z3,z4⟩:=szS_three (l:=S) (by simp only at v3; omega)
    match S,h2,z2 with
    | [r,c],_,z2 =>
      have hr:=z2 r (by simp)
      have hc:=z2 c (by simp)
      obtain ⟨R,rfl⟩:∃ R:Nat,r = R:=⟨r.toNat,by omega⟩
      obtain ⟨C,rfl⟩:∃ C:Nat,c = C:=⟨c.toNat,by omega⟩
      have hp:prodL [(R:Int),(C:Int)] = ((R * C:Nat):Int):=by unfold prodL; simp
      have hl:l.length = R * C:=by simp only at v3; omega
      have h4:R * C ≤ 4000:=by omega
      have hz2:szS [(C:Int),(R:Int)] = ((trp R C l R).length:Int):=by
        rw [trp_len]
        have hp2:prodL [(C:Int),(R:Int)] = ((R * C:Nat):Int):=by unfold prodL; simp; rw [Int.mul_comm]
        unfold szS
        rw [if_neg,hp2,if_neg (by omega)]
        rintro (q | q)
        · simp at q
        · rw [List.any_eq_true] at q
          obtain ⟨x,hm,hb⟩:=q
          unfold badX at hb
          simp only [Bool.or_eq_true,decide_eq_true_eq] at hb
          simp at hm; omega
      have g2:Good ⟨K,[(C:Int),(R:Int)],trp R C l R⟩:=good_same h (by simp) hz2 (by rw [trp_len]; exact hl.symm) (fun x hx=>mem_trp hl hx)
      have e1:=(Call_trans (a:=⟨K,[(R:Int),(C:Int)],l⟩) h).trans (trans_eq rfl rfl hl h4 (by omega) (by omega))
      have e2:=(Call_trans (a:=⟨K,[(C:Int),(R:Int)],trp R C l R⟩) g2).trans (trans_eq (R:=C) (C:=R) rfl rfl (by rw [trp_len,Nat.mul_comm]) (by rw [Nat.mul_comm]; exact h4) (by omega) (by omega))
      refine bindE e1 ?_
      refine bindE e2 ?_
      refine letF rfl (letF rfl ?_)
      rw [trp_back hl]
      exact bindE (same_eq (by simp) he) (letF rfl (turned_j0 h he hn))
  · exact letF (by rw [beq_eq_false_iff_ne]; omega) (turned_j0 h he hn)
theorem large_one {a:api.Array} (ha:ArrR a):Law7.isLarge [a] = some (largeA a):=by
  unfold Law7.isLarge
  have q1:=lgStep [a] 0 a rfl (by simp) ha
  have q2:=lgEnd [a] 1 rfl (by simp)
  rw [show Law7.isLarge.l0 [a] 0 = _ from q1]
  cases largeA a
  · rw [if_neg (by decide)]; exact q2
  · rfl
theorem ArrayShapes_eq (a:api.Array) (n:Int) (ra:ArrR a):Law7.ArrayShapes a n = some true:=by
  unfold Law7.ArrayShapes
  refine bindE (large_one (a:=⟨a.Kind,a.Shape,a.Elems⟩) ra) ?_
  cases hlg:largeA ⟨a.Kind,a.Shape,a.Elems⟩
  · rw [condF]
    have hi:=largeA_no (a:=a) ra hlg
    refine bindE (aValid_eq a (by have:=hi.s; omega) (by have:=hi.e; omega)) ?_
    cases hv:vldS a
    · exact letT rfl (bindE Law7.Awake_eq rfl)
    · refine letF rfl ?_
      have h:=good_of hv
      by_cases n1:n < -1000
      · exact letT (decide_eq_true n1) (bindE Law7.Awake_eq rfl)
      · refine letF (decide_eq_false n1) ?_
        by_cases n2:n > 1000
        · exact letT (decide_eq_true n2) (bindE Law7.Awake_eq rfl)
        · refine letF (decide_eq_false n2) ?_
          have hn:-1000 ≤ n ∧ n ≤ 1000:=by omega
          have hj1:Law7.ArrayShapes.j1 n a.Kind a.Shape a.Elems = some true:=by
            unfold Law7.ArrayShapes.j1
            exact bindE (turned_eq (a:=⟨a.Kind,a.Shape,a.Elems⟩) h hi.e hn) (bindE Law7.Awake_eq rfl)
          unfold Law7.ArrayShapes.j0
          refine letV rfl ?_
          by_cases hs:a.Shape = []
          · exact letF (decide_eq_false (by rw [hs]; decide)) hj1
          · have hs0:0 < a.Shape.length:=List.length_pos_iff.2 hs
            obtain ⟨v1,v2,v3,v4⟩:=vld_facts hv
            obtain ⟨z1,z2,z3,z4⟩:=szS_three (l:=a.Shape) (by omega)
            have gs:Good ⟨1,[(a.Shape.length:Int)],a.Shape⟩:=by
              refine ⟨?_,by simp,by show a.Shape.length ≤ 4000; omega⟩
              unfold vldS
              simp only [Bool.and_eq_true,decide_eq_true_eq,List.all_eq_true]
              refine ⟨by decide,by decide,?_,fun x hx=>dV_iff.2 (.inl ⟨rfl,by have:=z2 x hx; omega,by have:=z2 x hx; omega⟩)⟩
              unfold szS
              have hp:prodL [(a.Shape.length:Int)] = a.Shape.length:=by unfold prodL; simp
              rw [if_neg,hp,if_neg (by omega)]
              rintro (q | q)
              · simp at q
              · simp [badX] at q; omega
            have gl:Good ⟨2,[],[1]⟩:=good_sc (by decide) (by decide) (.inr (.inl ⟨rfl,.inr rfl⟩))
            have e1:=Call_shape (a:=⟨a.Kind,a.Shape,a.Elems⟩) h hs
            have e2:=(Call_reshape (a:=⟨a.Kind,a.Shape,a.Elems⟩) h gs).trans (reshape_eq (K:=a.Kind) (l:=a.Elems) hs z1 (fun x hx=>(z2 x hx).1) v3 h.e rfl)
            have e3:=(Call_pack (a:=⟨a.Kind,a.Shape,a.Elems⟩) h gl).trans (pack_eq (K:=a.Kind) (l:=a.Elems) hs h.e)
            refine letT (decide_eq_true (by omega)) ?_
            refine bindE e1 ?_
            refine bindE e2 ?_
            refine bindE e3 ?_
            refine letF rfl (letF rfl (bindE (same_eq hi.s hi.e) (letF rfl (bindE (a:=true) ?_ (letF rfl hj1)))))
            rw [ssF (by have:=hi.e; show a.Elems.length < _; omega)]
            exact congrArg some (decide_eq_true rfl)
  · exact bindE Law7.Awake_eq rfl
end Go.Q
