import Derived.Test.YtoecgpemlfoogaaGreatDoorFP
namespace Go.Q
open Go
def mw (w e:Int):Int:=if e = 0 then w else failN w e
theorem mw_zero (w:Int):mw w 0 = w:=if_pos rfl
theorem mw_pos {w a:Int} (h:0 < a):mw w a = failN w a:=if_neg (by omega)
theorem mw_ge {w e:Int} (h:0 ≤ w) (he:0 ≤ e):0 ≤ mw w e:=by unfold mw failN; split <;> (try split) <;> omega
theorem mw_none {w e:Int} (h:0 ≤ w) (he:0 ≤ e) (hz:mw w e = 0):w = 0 ∧ e = 0:=by
  unfold mw failN at hz
  split at hz
  · omega
  · split at hz <;> omega
theorem mw_assoc {w e f:Int} (h:0 ≤ w) (he:0 ≤ e) (hf:0 ≤ f):mw (mw w e) f = mw w (mw e f):=by
  unfold mw failN
  repeat' split
  all_goals omega
theorem mw_comm {w e:Int} (h:0 ≤ w) (he:0 ≤ e):mw w e = mw e w:=by
  unfold mw failN
  repeat' split
  all_goals omega
theorem trimR_idem (l:BS):Lib.trimRightB (Lib.trimRightB l 32) 32 = Lib.trimRightB l 32:=by
  unfold Lib.trimRightB
  rw [List.reverse_reverse]
  congr 1
  rcases drop_cases l.reverse with h | ⟨c,r,h,hc⟩
  · rw [h]; rfl
  · rw [h,List.dropWhile_cons,hc]; rfl
theorem tr_tr (x:BS):tr (tr x) = tr x:=by
  unfold tr
  rcases drop_cases x with h | ⟨c,r,h,hc⟩
  · rw [h]; rfl
  · rw [h]
    obtain ⟨r',hr⟩:=trimR_cons hc r
    rw [hr,List.dropWhile_cons,hc]
    simp only [Bool.false_eq_true,if_false]
    rw [← hr]; exact trimR_idem _
theorem pre_all (t:BS):(t.take (preD t)).all dig = true ∧ (t.take (preD t)).length = preD t:=by
  have h:=List.takeWhile_prefix dig (l:=t)
  have e:t.take (preD t) = t.takeWhile dig:=by unfold preD; exact List.prefix_iff_eq_take.1 h |>.symm
  rw [e]
  refine ⟨?_,rfl⟩
  rw [List.all_eq_true]
  intro x hx
  have:=List.all_takeWhile (p:=dig) (l:=t)
  rw [List.all_eq_true] at this
  exact this x hx
theorem nx_dig {c:UInt8} (h:dig c = true):nx 0 c = 0:=by
  obtain ⟨d1,d2⟩:=dig_b h
  unfold nx
  have h1:(c == 39) = false:=by rw [beq_eq_false_iff_ne]; intro e; subst e; revert d1; decide
  have h2:(c == 34) = false:=by rw [beq_eq_false_iff_ne]; intro e; subst e; revert d1; decide
  rw [h1,h2]; rfl
theorem fold_dig:∀ l:BS,l.all dig = true → l.foldl nx 0 = 0
  | [],_=>rfl
  | c :: r,h=>by
    simp only [List.all_cons,Bool.and_eq_true] at h
    rw [List.foldl_cons,nx_dig h.1]
    exact fold_dig r h.2
theorem labelled_lt {t:BS} (h:labelled t = true):0 < preD t ∧ preD t < t.length:=by
  unfold labelled at h
  simp only [Bool.and_eq_true,decide_eq_true_eq] at h
  exact ⟨h.1,h.2.1⟩
theorem st_fold (z:BS):((z.foldl nx 0 == 0) && stOK z) = stOK z:=by
  cases hs:stOK z with
  | false=>rw [Bool.and_false]
  | true =>
    unfold stOK at hs
    simp only [Bool.and_eq_true] at hs
    rw [hs.2.2.2.1]; rfl
theorem fold_pre (t:BS):(t.drop (preD t)).foldl nx 0 = t.foldl nx 0:=by
  conv=>rhs; rw [← List.take_append_drop (preD t) t,List.foldl_append,fold_dig _ (pre_all t).1]
theorem labelOf_any (l:BS) (hl:l.length < 2 ^ 40) (h0:l ≠ []) (ha:l.all dig = true):∃ n:Int,Src.labelOf (B l) = some (n,decide (l.length ≤ 5) && decide (0 < dval 0 l)) ∧ (l.length ≤ 5 → n = dval 0 l):=by
  by_cases h5:l.length ≤ 5
  · obtain ⟨n,h1,h2,_⟩:=labelOf_eq l h5
    have he:(l == []) = false:=beq_eq_false_iff_ne.2 h0
    rw [he,ha] at h1
    rw [he,ha] at h2
    exact ⟨n,by rw [h1,decide_eq_true h5]; rfl,fun _=>h2 rfl⟩
  · have hsz:(B l).size = l.length:=rfl
    have hs1:(⟨#[32]⟩:ByteArray).size = 1:=rfl
    obtain ⟨n,b,hn⟩:∃ n b,Strconv.Atoi (B l) = some ((n:Int),b):=by
      unfold Strconv.Atoi
      rw [chk_pos (by omega)]
      exact ⟨_,_,rfl⟩
    refine ⟨n,?_,fun h=>absurd h h5⟩
    unfold Src.labelOf
    rw [hn]
    simp only [Option.bind_some,letk]
    rw [chk_pos (by omega),chk_pos (by omega),show B l ++ (⟨#[32]⟩:ByteArray) = B (l ++ [32]) from B_appR l [32],numbered_eq _ (by simp only [List.length_append,List.length_singleton]; omega)]
    simp only [Option.bind_some]
    rw [hsz,decide_eq_false (by omega:¬ (l.length:Int) ≤ 5),decide_eq_false h5]
    cases b <;> cases ((preD (l ++ [32]):Int) == (l.length:Int)) <;> rfl
def pieceE (x:BS) (a:Int):Int :=
  if tr x = [] then 0
  else if labelled (tr x) = true then (if ((decide (preD (tr x) ≤ 5) && decide (0 < dval 0 ((tr x).take (preD (tr x))))) && stOK (tr ((tr x).drop (preD (tr x))))) = true then 0 else a)
  else if stOK (tr x) = true then 0 else a
def pieceL (x:BS) (a:Int):List api.Line :=
  if tr x = [] then []
  else if labelled (tr x) = true then [⟨(dval 0 ((tr x).take (preD (tr x))):Nat),B (tr ((tr x).drop (preD (tr x)))),a⟩]
  else [⟨0,B (tr x),a⟩]
theorem pieceE_ge (x:BS) {a:Int} (h:tr x ≠ [] → 0 < a):0 ≤ pieceE x a:=by
  unfold pieceE
  split
  · omega
  · rename_i h0
    have:=h h0
    split <;> split <;> omega
theorem end_none (o:List api.Line) (w l a:Int) (t:ByteArray) (q:Int):Src.reader.end_ o w false l a t q = some (o,w,false,l,a,t,q):=rfl
theorem failN_twice {w a:Int} (h0:0 ≤ w) (ha:0 < a):failN (failN w a) a = failN w a:=failN_keep (failN_pos h0 ha) failN_le
theorem over_eq (o:List api.Line) (w l a:Int) (x:BS) (hx:x.length < 2 ^ 40) (ho:o.length < 2 ^ 40) (h0:0 ≤ w) (ha:tr x ≠ [] → 0 < a):∃ o1,Src.reader.over_ o w true l a (B x) ((x.foldl nx 0).toNat:Int) = some (o1,mw w (pieceE x a),false,0,0,⟨#[]⟩,0) ∧ (mw w (pieceE x a) = 0 → o1 = o ++ pieceL x a) ∧ o1.length ≤ o.length + 1:=by
  have htl:=tr_len x
  have hfold:x.foldl nx 0 = (tr x).foldl nx 0:=(fold_tr x).symm
  rw [hfold]
  unfold Src.reader.over_
  rw [strim_eq x (by omega)]
  simp only [Option.bind_some]
  rw [numbered_eq _ (by omega)]
  simp only [Option.bind_some,letk]
  have hlen:∀ (oo:List api.Line) (z:api.Line),(oo ++ [z]).length ≤ oo.length + 1:=fun oo z=>by simp
  unfold pieceE pieceL
  by_cases ht:tr x = []
  · rw [if_pos ht,if_pos ht,ht]
    refine ⟨o,?_,fun _=>by simp,by omega⟩
    unfold Src.reader.over_.j0 Src.reader.over_.j1
    simp only [letk,show labelled ([]:BS) = false from rfl,cond_false,cond_true]
    rw [mw_zero,eqL,L_B,L_e0]
    rfl
  · rw [if_neg ht,if_neg ht]
    have ha':=ha ht
    have hsz:(B (tr x)).size = (tr x).length:=rfl
    cases hlb:labelled (tr x) with
    | true =>
      obtain ⟨l1,l2⟩:=labelled_lt hlb
      obtain ⟨p1,p2⟩:=pre_all (tr x)
      simp only [cond_true,if_true]
      have hne:(tr x).take (preD (tr x)) ≠ []:=by intro e; rw [e] at p2; simp at p2; omega
      obtain ⟨n,e1,e2⟩:=labelOf_any ((tr x).take (preD (tr x))) (by omega) hne p1
      rw [p2] at e1 e2
      rw [chk_pos (by omega),Int.toNat_natCast,ext_B,L_B,e1]
      simp only [Option.bind_some]
      rw [fail_eq]
      simp only [Option.bind_some]
      rw [chk_pos (by omega),chk_pos (by omega),ext_D,L_B]
      have hyl:((tr x).drop (preD (tr x))).length < 2 ^ 40:=by rw [List.length_drop]; omega
      have hyne:((tr x).drop (preD (tr x)) == []) = false:=by
        rw [beq_eq_false_iff_ne]; intro e
        have:=congrArg List.length e
        rw [List.length_drop] at this; simp at this; omega
      have hj:∀ w' n',Src.reader.over_.j0 o w' true l a (B x) (((tr x).foldl nx 0).toNat:Int) (B ((tr x).drop (preD (tr x)))) n' = some ((if tr ((tr x).drop (preD (tr x))) = [] ∧ n' = 0 then o else o ++ [(⟨n',B (tr ((tr x).drop (preD (tr x)))),a⟩:api.Line)]),(if tr ((tr x).drop (preD (tr x))) = [] ∧ n' = 0 then w' else if stOK (tr ((tr x).drop (preD (tr x)))) = true then w' else failN w' a),false,0,0,⟨#[]⟩,0):=by
        intro w' n'
        unfold Src.reader.over_.j0 Src.reader.over_.j1
        simp only [letk]
        rw [eqL,L_B,L_e0,hyne,Bool.not_false,cond_true,end_eq o w' n' a _ _ hyl ho]
        have hq:(((tr x).foldl nx 0) == 0 && stOK (tr ((tr x).drop (preD (tr x))))) = stOK (tr ((tr x).drop (preD (tr x)))):=by
          rw [← fold_pre (tr x),← fold_tr ((tr x).drop (preD (tr x)))]; exact st_fold _
        rw [hq]
        by_cases hc:tr ((tr x).drop (preD (tr x))) = [] ∧ n' = 0
        · rw [if_pos hc,if_pos hc,if_pos hc]; rfl
        · rw [if_neg hc,if_neg hc,if_neg hc]; rfl
      rw [hj,hj]
      cases hok:(decide (preD (tr x) ≤ 5) && decide (0 < dval 0 ((tr x).take (preD (tr x))))) with
      | true =>
        simp only [Bool.and_eq_true,decide_eq_true_eq] at hok
        have hn:n = (dval 0 ((tr x).take (preD (tr x))):Nat):=e2 hok.1
        have hnn:¬ (tr ((tr x).drop (preD (tr x))) = [] ∧ n = 0):=fun h=>by omega
        simp only [if_neg hnn,Bool.not_true,cond_false,Bool.true_and]
        cases hs:stOK (tr ((tr x).drop (preD (tr x)))) with
        | true =>
          simp only [if_true]
          rw [mw_zero]
          exact ⟨_,rfl,fun _=>by rw [hn],hlen _ _⟩
        | false =>
          simp only [Bool.false_eq_true,if_false]
          rw [mw_pos ha']
          have:=failN_pos h0 ha'
          exact ⟨_,rfl,fun h=>by omega,hlen _ _⟩
      | false =>
        simp only [Bool.not_false,cond_true,Bool.false_and,Bool.false_eq_true,if_false]
        rw [mw_pos ha',failN_twice h0 ha']
        have:=failN_pos h0 ha'
        refine ⟨(if tr ((tr x).drop (preD (tr x))) = [] ∧ n = 0 then o else o ++ [⟨n,B (tr ((tr x).drop (preD (tr x)))),a⟩]),?_,fun h=>by omega,by split; omega; exact hlen _ _⟩
        congr 3
        split
        · rfl
        · split <;> rfl
    | false =>
      simp only [cond_false,Bool.false_eq_true,if_false]
      unfold Src.reader.over_.j0 Src.reader.over_.j1
      simp only [letk]
      have hne:(tr x == []) = false:=beq_eq_false_iff_ne.2 ht
      rw [eqL,L_B,L_e0,hne,Bool.not_false,cond_true,end_eq o w 0 a _ _ (by omega) ho,tr_tr,st_fold,if_neg (fun h=>ht h.1)]
      simp only [Option.bind_some]
      cases hs:stOK (tr x) with
      | true =>
        simp only [if_true]
        rw [mw_zero]
        exact ⟨_,rfl,fun _=>rfl,hlen _ _⟩
      | false =>
        simp only [Bool.false_eq_true,if_false]
        rw [mw_pos ha']
        have:=failN_pos h0 ha'
        exact ⟨_,rfl,fun h=>by omega,hlen _ _⟩
end Go.Q
namespace Go.Q
open Go
abbrev PL:=UInt8 × Int
def bys (c:List PL):BS:=c.map (·.1)
def atP (c:List PL):Int:=match c.dropWhile (fun p=>p.1 == 32) with
  | []=>0
  | p :: _=>p.2
def pE (c:List PL):Int:=pieceE (bys c) (atP c)
def pL (c:List PL):List api.Line:=pieceL (bys c) (atP c)
def WF (w:Int) (fin:List (List PL)):Int:=fin.foldl (fun w c=>mw w (pE c)) w
def LF (fin:List (List PL)):List api.Line:=fin.flatMap pL
def stepG (s:List (List PL) × List PL × UInt8) (p:PL):List (List PL) × List PL × UInt8:=if p.1 = 59 ∧ s.2.2 = 0 then (s.1 ++ [s.2.1],[],0) else (s.1,s.2.1 ++ [p],nx s.2.2 p.1)
def good (c:List PL):Prop:=∀ p ∈ c,0 < p.2
theorem bys_len (c:List PL):(bys c).length = c.length:=List.length_map _
theorem bys_drop (c:List PL):bys (c.dropWhile (fun p=>p.1 == 32)) = (bys c).dropWhile (· == 32):=by
  induction c with
  | nil=>rfl
  | cons p r ih =>
    show bys (List.dropWhile _ (p :: r)) = List.dropWhile _ (p.1 :: bys r)
    rw [List.dropWhile_cons,List.dropWhile_cons]
    split
    · exact ih
    · rfl
theorem atP_pos {c:List PL} (h:good c) (ht:tr (bys c) ≠ []):0 < atP c:=by
  unfold atP
  split
  · rename_i e
    have:=bys_drop c
    rw [e] at this
    exact absurd (by unfold tr; rw [← this]; rfl) ht
  · rename_i p r e
    have:p ∈ c.dropWhile (fun p=>p.1 == 32):=by rw [e]; exact List.mem_cons_self
    exact h p ((List.dropWhile_sublist _).mem this)
theorem pE_ge {c:List PL} (h:good c):0 ≤ pE c:=pieceE_ge _ (fun ht=>atP_pos h ht)
theorem WF_ge {w:Int} {fin:List (List PL)} (h:0 ≤ w) (hf:∀ c ∈ fin,good c):0 ≤ WF w fin:=by
  induction fin generalizing w with
  | nil=>exact h
  | cons c r ih=>exact ih (mw_ge h (pE_ge (hf c List.mem_cons_self))) (fun c hc=>hf c (List.mem_cons_of_mem _ hc))
theorem WF_mw {w e:Int} {fin:List (List PL)} (h:0 ≤ w) (he:0 ≤ e) (hf:∀ c ∈ fin,good c):WF (mw w e) fin = mw (WF w fin) e:=by
  induction fin generalizing w with
  | nil=>rfl
  | cons c r ih =>
    have hc:=pE_ge (hf c List.mem_cons_self)
    show WF (mw (mw w e) (pE c)) r = mw (WF (mw w (pE c)) r) e
    rw [mw_assoc h he hc,mw_comm he hc,← mw_assoc h hc he]
    exact ih (mw_ge h hc) (fun c hc=>hf c (List.mem_cons_of_mem _ hc))
theorem WF_zero {w:Int} {fin:List (List PL)} (h:0 ≤ w) (hf:∀ c ∈ fin,good c) (hz:WF w fin = 0):w = 0:=by
  induction fin generalizing w with
  | nil=>exact hz
  | cons c r ih =>
    have hc:=pE_ge (hf c List.mem_cons_self)
    have:=ih (mw_ge h hc) (fun c hc=>hf c (List.mem_cons_of_mem _ hc)) hz
    exact (mw_none h hc this).1
theorem WF_app (w:Int) (f g:List (List PL)):WF w (f ++ g) = WF (WF w f) g:=List.foldl_append ..
theorem LF_app (f g:List (List PL)):LF (f ++ g) = LF f ++ LF g:=List.flatMap_append
theorem LF_one (c:List PL):LF [c] = pL c:=by simp [LF]
theorem tr_sp (r:BS):tr (32 :: r) = tr r:=by
  unfold tr
  rw [List.dropWhile_cons]; rfl
end Go.Q
namespace Go.Q
open Go
theorem step_pre:∀ (l:List PL) (f:List (List PL)) (c:List PL) (q:UInt8),l.foldl stepG (f,c,q) = (f ++ (l.foldl stepG ([],c,q)).1,(l.foldl stepG ([],c,q)).2)
  | [],f,c,q=>by simp
  | p :: r,f,c,q=>by
    rw [List.foldl_cons,List.foldl_cons]
    by_cases h:p.1 = 59 ∧ q = 0
    · have e1:stepG (f,c,q) p = (f ++ [c],[],0):=if_pos h
      have e2:stepG ([],c,q) p = ([c],[],0):=if_pos h
      rw [e1,e2,step_pre r (f ++ [c]),step_pre r [c]]
      simp
    · have e1:stepG (f,c,q) p = (f,c ++ [p],nx q p.1):=if_neg h
      have e2:stepG ([],c,q) p = ([],c ++ [p],nx q p.1):=if_neg h
      rw [e1,e2]
      exact step_pre r f _ _
def allG (s:List (List PL) × List PL × UInt8):List (List PL):=s.1 ++ [s.2.1]
theorem good_fold:∀ (l:List PL) (s:List (List PL) × List PL × UInt8),good l → (∀ c ∈ allG s,good c) → ∀ c ∈ allG (l.foldl stepG s),good c:=by
  intro l
  induction l with
  | nil=>intro s _ h; exact h
  | cons p r ih =>
    intro s hp h
    rw [List.foldl_cons]
    refine ih _ (fun x hx=>hp x (List.mem_cons_of_mem _ hx)) (fun c hcm=>?_)
    have hpp:=hp p List.mem_cons_self
    unfold stepG at hcm
    split at hcm
    · simp only [allG,List.mem_append,List.mem_singleton] at hcm
      rcases hcm with (hcm | hcm) | hcm
      · exact h c (by simp [allG,hcm])
      · exact h c (by simp [allG,hcm])
      · subst hcm; intro x hx; cases hx
    · simp only [allG,List.mem_append,List.mem_singleton] at hcm
      rcases hcm with hcm | hcm
      · exact h c (by simp [allG,hcm])
      · subst hcm
        intro x hx
        rcases List.mem_append.1 hx with hx | hx
        · exact h s.2.1 (by simp [allG]) x hx
        · rw [List.mem_singleton] at hx; subst hx; exact hpp
theorem tag_fst (line:Int):∀ s:BS,(s.map fun c=>((c,line):PL)).map (·.1) = s
  | []=>rfl
  | c :: r=>by show c :: _ = _; rw [tag_fst line r]
end Go.Q
