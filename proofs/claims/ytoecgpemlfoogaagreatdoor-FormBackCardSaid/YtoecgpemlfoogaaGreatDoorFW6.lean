import Derived.Test.YtoecgpemlfoogaaGreatDoorFW5
namespace Go.Q
open Go
set_option maxRecDepth 100000
set_option maxHeartbeats 4000000
theorem quiet_find:∀ (d:BS) (i:Nat) (q:UInt8),quiet d q → findC 33 d i q < 0
  | [],_,_,_=>by unfold findC; decide
  | c :: r,i,q,h=>by
    unfold findC
    rw [if_neg]
    · exact quiet_find r (i + 1) _ h.2
    · intro e
      rw [Bool.and_eq_true,beq_iff_eq,beq_iff_eq] at e
      exact h.1 ⟨.inr e.1,e.2⟩
theorem part_quiet {d:BS} {q:UInt8} (h:quiet d q):part d q = d ++ List.replicate (66 - d.length) 32:=by
  have:=quiet_find d 0 q h
  unfold part
  rw [if_neg (by omega)]
theorem comment_old {c:UInt8} {r:BS} (hl:r.length < 1000) (h:(c :: r).dropWhile (· == 32) ≠ []) (hc:([67,99,42,33]:BS).contains c = false):Src.Comment (B (c :: r)) true = some false:=by
  unfold Src.Comment
  have hix:Strs.IndexByte ⟨#[67,99,42,33]⟩ (bt (B (c :: r)) 0) = some (Lib.indexByte [67,99,42,33] c):=indexByte_eq [67,99,42,33] c
  refine bindE (a:=B ((c :: r).dropWhile (· == 32))) (by unfold Strs.TrimLeft; rw [chk_pos rfl,L_B]; rfl) (bT (letV (y:=false) ?_ (bF (chkE ?_ (letV rfl (bindE hix (letV (y:=false) ?_ rfl)))))))
  · rw [eqL,L_B,L_e0]
    exact beq_eq_false_iff_ne.2 h
  · rw [size_B,List.length_cons]; omega
  · have:=contains_ix [67,99,42,33] c
    rw [hc] at this
    exact this
theorem blank_no:∀ l:BS,(∃ x ∈ l,(x == 32) = false) → l.dropWhile (· == 32) ≠ []:=fun l ⟨x,hx,h⟩ e=>by
  rw [dw_nil] at e
  have:=e x hx
  rw [h] at this
  cases this
theorem cont_app {p d:BS} (hp:p.length = 6):cont (p ++ d) = (!(p.getD 5 0 == 32) && !(p.getD 5 0 == 48)):=by
  unfold cont
  rw [pad6_long _ (by rw [List.length_append]; omega),List.getD_eq_getElem?_getD,List.getElem?_append_left (by omega),← List.getD_eq_getElem?_getD]
theorem old_cont (o:List api.Line) (l a:Int) (y d:BS) (at':Int) (hy:y.length < 2 ^ 30) (hd:d.length < 100) :
    Src.reader.old o 0 true l a (B y) ((y.foldl nx 0).toNat:Int) at' (B (col6 ++ d)) = some (o,0,true,l,a,B (y ++ part d (y.foldl nx 0)),(((y ++ part d (y.foldl nx 0)).foldl nx 0).toNat:Int)):=by
  rw [src_body _ _ _ _ _ _ _ _ _ (by rw [List.length_append]; simp only [col6,List.length_cons,List.length_nil]; omega),cont_app (p:=col6) rfl]
  have e1:tr ((col6 ++ d).take 5) = []:=rfl
  have e2:(col6 ++ d).drop 6 = d:=rfl
  rw [e1,e2]
  show Src.reader.old.j1 at' (B []) (B d) o 0 true l a (B y) ((y.foldl nx 0).toNat:Int) true = _
  unfold Src.reader.old.j1
  exact bT (letV (y:=false) (by rw [eqL,L_B,L_e0]; rfl) (bF (letV (y:=false) rfl (bF (old_j0_eq d y o 0 true l a (by omega) (by omega))))))
theorem lbl_tr (n:Nat):tr (lbl n) = lbl n:=by
  rcases Nat.eq_zero_or_pos n with e | e
  · subst e; rfl
  · have hd:=lbl_dig n n (Nat.le_refl _)
    have hb:∀ c ∈ lbl n,(c == 32) = false:=fun c hc=>by
      rw [List.all_eq_true] at hd
      rw [beq_eq_false_iff_ne]
      intro e
      subst e
      exact absurd (hd _ hc) (by decide)
    have h1:∀ l:BS,(∀ c ∈ l,(c == 32) = false) → l.dropWhile (· == 32) = l:=fun l h=>by
      cases l with
      | nil=>rfl
      | cons c r=>rw [List.dropWhile_cons,h c (List.mem_cons_self ..)]; rfl
    unfold tr
    rw [h1 _ hb]
    unfold Lib.trimRightB
    rw [h1 _ (fun c hc=>hb c (List.mem_reverse.1 hc)),List.reverse_reverse]
theorem pad6_at5 {m:BS} (h:m.length ≤ 5):(pad6 m).getD 5 0 = 32:=by
  unfold pad6
  rw [List.getD_eq_getElem?_getD,List.getElem?_append_right h,List.getElem?_replicate,if_pos (by omega)]; rfl
theorem old_first {o:List api.Line} {b:Bool} {l a:Int} {t:ByteArray} {q:Int} {o1:List api.Line} {l1 a1:Int} {t1:ByteArray} {q1:Int} (he:Src.reader.end_ o 0 b l a t q = some (o1,0,false,l1,a1,t1,q1)) (n:Nat) (hn:n ≤ 99999) (d:BS) (at':Int) (hd:d.length < 100) :
    Src.reader.old o 0 b l a t q at' (B (pad6 (lbl n) ++ d)) = some (o1,0,true,(n:Int),at',B (part d 0),(((part d 0).foldl nx 0).toNat:Int)):=by
  have hle:(lbl n).length ≤ 5:=lbl_len 5 _ (by omega)
  have hp:(pad6 (lbl n)).length = 6:=by rw [pad6_len]; omega
  rw [src_body _ _ _ _ _ _ _ _ _ (by rw [List.length_append]; omega),cont_app hp,pad6_at5 hle]
  have e1:tr ((pad6 (lbl n) ++ d).take 5) = lbl n:=by
    rw [List.take_append_of_le_length (by omega),pad6_take,List.take_of_length_le hle,lbl_tr]
  have e2:(pad6 (lbl n) ++ d).drop 6 = d:=by rw [← hp]; exact List.drop_left ..
  rw [e1,e2]
  show Src.reader.old.j1 at' (B (lbl n)) (B d) o 0 b l a t q false = _
  unfold Src.reader.old.j1
  have h0:=old_j0_eq d [] o1 0 true (n:Int) at' (by omega) (by decide)
  obtain ⟨n',k1,k2,k3⟩:=labelOf_eq (lbl n) hle
  have hd:=lbl_dig n n (Nat.le_refl _)
  have hv:=lbl_val n n (Nat.le_refl _)
  rcases Nat.eq_zero_or_pos n with e | e
  · subst e
    have hz:n' = 0:=k3 rfl
    subst hz
    exact bF (bindE he (bindE k1 (letV (y:=false) (by rw [eqL,L_B,L_e0]; rfl) (bF h0))))
  · have hne:(lbl n == []) = false:=beq_eq_false_iff_ne.2 (lbl_ne e)
    rw [hd,hv,hne] at k1
    have hz:n' = (n:Int):=by
      have:=k2 (by rw [hne,hd]; rfl)
      rw [hv] at this
      exact this
    subst hz
    rw [decide_eq_true e] at k1
    exact bF (bindE he (bindE k1 (letV (y:=true) (by rw [eqL,L_B,L_e0,hne]; rfl) (bT (letV (y:=false) rfl (bF h0))))))
theorem old_front (T:ByteArray) (LL:List ByteArray) (o:List api.Line) (b:Bool) (l a:Int) (t:ByteArray) (q:Int) (n:Nat) (c:UInt8) (r:BS) (hn:n < LL.length) (hll:LL.length < 2 ^ 40) (hg:LL[n]? = some (B (c :: r)))
    (hok:(c :: r).all okB = true) (hl:(c :: r).length ≤ 72) (hb:(c :: r).dropWhile (· == 32) ≠ []) (hc:([67,99,42,33]:BS).contains c = false)
    {o1:List api.Line} {w1:Int} {b1:Bool} {l1 a1:Int} {t1:ByteArray} {q1:Int} (ho:Src.reader.old o 0 b l a t q ((n + 1:Nat):Int) (B (c :: r)) = some (o1,w1,b1,l1,a1,t1,q1)) :
    Src.Old.l0 T LL (LL.length:Int) o 0 b l a t q (n:Int) = Src.Old.l0 T LL (LL.length:Int) o1 w1 b1 l1 a1 t1 q1 ((n + 1:Nat):Int):=by
  have hw1:IntKind.i64.wrap ((n:Int) + 1) = ((n + 1:Nat):Int):=by rw [w64n (by omega) (by omega)]; rfl
  have hit:Src.isText (B (c :: r)) = some true:=by rw [isText_eq _ (by omega),hok]
  unfold Src.Old.l0
  refine loopO_next (t:=(o1,w1,b1,l1,a1,t1,q1,((n + 1:Nat):Int))) ?_ rfl
  show Src.Old.s0 T LL (LL.length:Int) o 0 b l a t q (n:Int) = _
  unfold Src.Old.s0
  refine letT (decide_eq_true (by omega)) (chkE (by omega) (bindE (by rw [Int.toNat_natCast]; exact hg) (bindE hit (letV (y:=false) rfl (bF (letV rfl (letV (y:=false) (decide_eq_false (by rw [size_B]; omega)) ?_)))))))
  unfold Src.Old.j1
  refine bF ?_
  unfold Src.Old.j0
  rw [List.length_cons] at hl
  exact bindE (comment_old (by omega) hb hc) (letV (y:=true) rfl (bT (letV hw1 (bindE ho (letV hw1 rfl)))))
theorem col6_ne (d:BS):(col6 ++ d).dropWhile (· == 32) ≠ []:=blank_no _ ⟨38,by simp [col6],by decide⟩
theorem old_more (T:ByteArray) (ls:List BS) (hls:ls.length < 2 ^ 14) (t:BS) (S:StT t) (ht:t.length ≤ 8000) (o:List api.Line) (l a:Int) (more:List BS):∀ (k:Nat) (s y:BS) (n:Nat),s.length ≤ k → ls.drop n = segs 66 [] col6 col6 s ++ more → y ++ s = t →
    ∃ j,j ≤ 100 ∧ Src.Old.l0 T (ls.map B) ((ls.map B).length:Int) o 0 true l a (B y) ((y.foldl nx 0).toNat:Int) (n:Int) =
      Src.Old.l0 T (ls.map B) ((ls.map B).length:Int) o 0 true l a (B (t ++ List.replicate j 32)) 0 ((n + (segs 66 [] col6 col6 s).length:Nat):Int)
  | k,s,y,n,hk,hd,hf=>by
    have hml:(ls.map B).length = ls.length:=List.length_map _
    have hlen:y.length + s.length ≤ 8000:=by rw [← List.length_append,hf]; exact ht
    have hqs:quiet s (y.foldl nx 0):=by have:=S.qt; rw [← hf,quiet_app] at this; exact this.2
    have hoks:s.all okB = true:=by have:=S.ok; rw [← hf,List.all_append,Bool.and_eq_true] at this; exact this.2
    by_cases h:66 < s.length
    · match k,hk with
      | 0,hk=>omega
      | k + 1,hk =>
        rw [segs_go (by decide) h,List.cons_append,List.append_nil] at hd
        obtain ⟨hn,hget,hmore⟩:=dropHd hd
        have htl:(s.take 66).length = 66:=by rw [List.length_take]; omega
        have hqt:=quiet_take s 66 _ hqs
        have hp:part (s.take 66) (y.foldl nx 0) = s.take 66:=by rw [part_quiet hqt,htl]; exact List.append_nil _
        have hold:=old_cont o l a y (s.take 66) ((n + 1:Nat):Int) (by omega) (by omega)
        rw [hp] at hold
        have hbc:(y ++ s.take 66) ++ s.drop 66 = t:=by rw [List.append_assoc,List.take_append_drop,hf]
        obtain ⟨j,hj,ih⟩:=old_more T ls hls t S ht o l a more k (s.drop 66) (y ++ s.take 66) (n + 1) (by rw [List.length_drop]; omega) hmore hbc
        refine ⟨j,hj,?_⟩
        rw [segs_go (by decide) h,List.length_cons,show n + ((segs 66 [] col6 col6 (s.drop 66)).length + 1) = n + 1 + (segs 66 [] col6 col6 (s.drop 66)).length by omega,← ih]
        exact old_front T (ls.map B) o true l a _ _ n 32 (32 :: 32 :: 32 :: 32 :: 38 :: s.take 66) (by omega) (by omega) (by rw [List.getElem?_map,hget]; rfl)
          (by have:=okB_take 66 hoks; simp only [List.all_cons,this]; rfl) (by simp only [List.length_cons]; omega) (col6_ne _) rfl hold
    · rw [segs_end h,List.singleton_append] at hd
      obtain ⟨hn,hget,hmore⟩:=dropHd hd
      have hold:=old_cont o l a y s ((n + 1:Nat):Int) (by omega) (by omega)
      rw [part_quiet hqs,← List.append_assoc,hf,List.foldl_append,S.fold,fold_rep (.inl rfl)] at hold
      refine ⟨66 - s.length,by omega,?_⟩
      rw [segs_end h]
      exact old_front T (ls.map B) o true l a _ _ n 32 (32 :: 32 :: 32 :: 32 :: 38 :: s) (by omega) (by omega) (by rw [List.getElem?_map,hget]; rfl)
          (by simp only [List.all_cons,hoks]; rfl) (by simp only [List.length_cons]; omega) (col6_ne _) rfl hold
theorem pad6_ok {m:BS} (h:m.all okB = true):(pad6 m).all okB = true:=by
  unfold pad6
  rw [List.all_append,h,Bool.true_and,List.all_eq_true]
  intro x hx
  rw [List.eq_of_mem_replicate hx]; rfl
theorem head_c (n:Nat) (hle:(lbl n).length ≤ 5):∃ c r,pad6 (lbl n) = c :: r ∧ ([67,99,42,33]:BS).contains c = false:=by
  have hd:=lbl_dig n n (Nat.le_refl _)
  unfold pad6
  cases h:lbl n with
  | nil=>exact ⟨32,List.replicate 5 32,rfl,rfl⟩
  | cons c r =>
    rw [h] at hd
    simp only [List.all_cons,Bool.and_eq_true] at hd
    refine ⟨c,_,rfl,?_⟩
    have h1:=dig_b hd.1
    rw [Bool.eq_false_iff]
    intro e
    rw [List.contains_iff_mem] at e
    simp only [List.mem_cons,List.not_mem_nil,or_false] at e
    rcases e with rfl | rfl | rfl | rfl
    · exact absurd h1.2 (by decide)
    · exact absurd h1.2 (by decide)
    · exact absurd h1.1 (by decide)
    · exact absurd h1.1 (by decide)
def segsO (x:api.Line):List BS:=segs 66 [] col6 (pad6 (lbl x.Label.toNat)) (L x.Text)
theorem end_done {t:BS} (S:StT t) (ht:t.length ≤ 8000) (o:List api.Line) (ho:o.length < 2 ^ 20) (l a:Int) (j:Nat) (hj:j ≤ 100):∃ q,Src.reader.end_ o 0 true l a (B (t ++ List.replicate j 32)) 0 = some (o ++ [⟨l,B t,a⟩],0,false,l,a,B (t ++ List.replicate j 32),q):=by
  refine ⟨((0:UInt8).toNat:Int),?_⟩
  have h:=end_eq o 0 l a (t ++ List.replicate j 32) 0 (by rw [List.length_append,List.length_replicate]; omega) (by omega)
  rw [tr_rep,S.trm,S.st] at h
  rw [if_neg (fun e=>S.ne e.1),if_pos (show ((0:UInt8) == 0 && true) = true from rfl)] at h
  exact h
theorem old_stmt (T:ByteArray) (ls:List BS) (hls:ls.length < 2 ^ 14) {x:api.Line} (hx:okLine x = true) (more:List BS) {o:List api.Line} {b:Bool} {l a:Int} {t:ByteArray} {q:Int} {o1:List api.Line} {l1 a1:Int} {t1:ByteArray} {q1:Int}
    (he:Src.reader.end_ o 0 b l a t q = some (o1,0,false,l1,a1,t1,q1)) (ho1:o1.length < 2 ^ 20) (n:Nat) (hd:ls.drop n = segsO x ++ more) :
    ∃ (l' a':Int) (t':ByteArray) (l2:Int) (t2:ByteArray) (q2:Int),Src.Old.l0 T (ls.map B) ((ls.map B).length:Int) o 0 b l a t q (n:Int) =
      Src.Old.l0 T (ls.map B) ((ls.map B).length:Int) o1 0 true l' a' t' 0 ((n + (segsO x).length:Nat):Int) ∧
      Src.reader.end_ o1 0 true l' a' t' 0 = some (o1 ++ [⟨x.Label,x.Text,a'⟩],0,false,l2,a',t2,q2):=by
  obtain ⟨h1,h2,h3,_⟩:=okL hx
  have S:=full_st hx
  have hml:(ls.map B).length = ls.length:=List.length_map _
  obtain ⟨m,hm⟩:∃ m,m = x.Label.toNat:=⟨_,rfl⟩
  have hlm:x.Label = (m:Int):=by omega
  have hle:(lbl m).length ≤ 5:=lbl_len 5 _ (by omega)
  have hp6:(pad6 (lbl m)).length = 6:=by rw [pad6_len]; omega
  have htl:(L x.Text).length ≤ 8000:=by rw [L_len]; omega
  obtain ⟨c,r,hcr,hcn⟩:=head_c m hle
  have hr:r.length = 5:=by rw [hcr,List.length_cons] at hp6; omega
  have hpok:(pad6 (lbl m)).all okB = true:=pad6_ok (all_dig (lbl_dig m m (Nat.le_refl _)))
  have hblank:∀ n:Nat,0 < n → (pad6 (lbl m) ++ (L x.Text).take n).dropWhile (· == 32) ≠ []:=fun n hn=>by
    refine blank_no _ ?_
    have h5:=S.trR.2
    rcases drop_cases (L x.Text) with h6 | ⟨d,e,h6,h7⟩
    · rw [h6] at h5; exact absurd h5.symm S.ne
    · rw [h5] at h6
      refine ⟨d,?_,h7⟩
      rw [h6]
      match n,hn with
      | n + 1,_=>simp
  unfold segsO at hd ⊢
  rw [← hm] at hd ⊢
  rw [hlm]
  by_cases h:66 < (L x.Text).length
  · rw [segs_go (by decide) h,List.cons_append,List.append_nil] at hd
    obtain ⟨hn,hget,hmore⟩:=dropHd hd
    have htk:((L x.Text).take 66).length = 66:=by rw [List.length_take]; omega
    have hqt:=quiet_take (L x.Text) 66 _ S.qt
    have hp:part ((L x.Text).take 66) 0 = (L x.Text).take 66:=by rw [part_quiet hqt,htk]; exact List.append_nil _
    have hold:=old_first he m (by omega) ((L x.Text).take 66) ((n + 1:Nat):Int) (by omega)
    rw [hp,hcr] at hold
    have hb:=hblank 66 (by decide)
    rw [hcr] at hb
    obtain ⟨j,hj,hmo⟩:=old_more T ls hls (L x.Text) S htl o1 (m:Int) ((n + 1:Nat):Int) more _ ((L x.Text).drop 66) ((L x.Text).take 66) (n + 1) (Nat.le_refl _) hmore (List.take_append_drop ..)
    obtain ⟨q2,hq2⟩:=end_done S htl o1 ho1 (m:Int) ((n + 1:Nat):Int) j hj
    rw [B_L] at hq2
    refine ⟨_,_,_,_,_,_,?_,hq2⟩
    rw [segs_go (by decide) h,List.length_cons,show n + ((segs 66 [] col6 col6 ((L x.Text).drop 66)).length + 1) = n + 1 + (segs 66 [] col6 col6 ((L x.Text).drop 66)).length by omega,← hmo]
    exact old_front T (ls.map B) o b l a t q n c (r ++ (L x.Text).take 66) (by omega) (by omega) (by rw [List.getElem?_map,hget,hcr]; rfl)
      (by rw [← List.cons_append,← hcr,List.all_append,hpok,okB_take 66 S.ok]; rfl) (by simp only [List.length_cons,List.length_append]; omega) hb hcn hold
  · rw [segs_end h,List.singleton_append] at hd
    obtain ⟨hn,hget,hmore⟩:=dropHd hd
    have hold:=old_first he m (by omega) (L x.Text) ((n + 1:Nat):Int) (by omega)
    rw [part_quiet S.qt,List.foldl_append,S.fold,fold_rep (.inl rfl),hcr] at hold
    have hb:=hblank (L x.Text).length (List.length_pos_iff.2 S.ne)
    rw [List.take_length,hcr] at hb
    obtain ⟨q2,hq2⟩:=end_done S htl o1 ho1 (m:Int) ((n + 1:Nat):Int) (66 - (L x.Text).length) (by omega)
    rw [B_L] at hq2
    refine ⟨_,_,_,_,_,_,?_,hq2⟩
    rw [segs_end h]
    exact old_front T (ls.map B) o b l a t q n c (r ++ L x.Text) (by omega) (by omega) (by rw [List.getElem?_map,hget,hcr]; rfl)
      (by rw [← List.cons_append,← hcr,List.all_append,hpok,S.ok]; rfl) (by simp only [List.length_cons,List.length_append]; omega) hb hcn hold
theorem lines_flatO:∀ (l:List api.Line),(∀ x ∈ l,okLine x = true) → linesL (flatW rowO l) [] = l.flatMap segsO
  | [],_=>rfl
  | x :: l,h=>by
    have ih:=lines_flatO l (fun y hy=>h y (List.mem_cons_of_mem _ hy))
    have hx:=h x (List.mem_cons_self ..)
    rw [flatW_cons,List.flatMap_cons,← ih]
    exact lines_cut (n:=66) (e:=[]) (b:=col6) (by decide) rfl rfl _ (L x.Text) (pad6 (lbl x.Label.toNat)) (flatW rowO l) (Nat.le_refl _) (full_st hx).ok (pad6_ok (all_dig (lbl_dig _ _ (Nat.le_refl _))))
theorem old_all (T:ByteArray) (hT:T.size ≤ 8000) (ls:List BS) (hls:ls.length < 2 ^ 14):∀ (m:List api.Line) (o:List api.Line) (b:Bool) (l a:Int) (t:ByteArray) (q:Int) (o1:List api.Line) (l1 a1:Int) (t1:ByteArray) (q1:Int) (n:Nat),
    Src.reader.end_ o 0 b l a t q = some (o1,0,false,l1,a1,t1,q1) → (∀ x ∈ m,okLine x = true) → o1.length + m.length ≤ 200 → ls.drop n = m.flatMap segsO →
    ∃ v,Same m v ∧ Src.Old.l0 T (ls.map B) ((ls.map B).length:Int) o 0 b l a t q (n:Int) = some (o1 ++ v,0,0)
  | [],o,b,l,a,t,q,o1,l1,a1,t1,q1,n,he,_,ho,hd=>by
    refine ⟨[],rfl,?_⟩
    have hn:ls.length ≤ n:=List.drop_eq_nil_iff.1 hd
    have hml:(ls.map B).length = ls.length:=List.length_map _
    rw [List.append_nil]
    unfold Src.Old.l0
    refine loopO_end ?_
    show Src.Old.s0 T (ls.map B) ((ls.map B).length:Int) o 0 b l a t q (n:Int) = _
    unfold Src.Old.s0
    have hans:Src.reader.answer o1 0 false l1 a1 t1 q1 T = some (o1,0,0):=by
      unfold Src.reader.answer
      rw [List.length_nil] at ho
      exact letF (decide_eq_false (by decide)) (letV rfl (letF (decide_eq_false (by omega)) (letV rfl (letF (decide_eq_false (by omega)) rfl))))
    exact letF (decide_eq_false (by omega)) (mapE (bindE he (bindE hans rfl)))
  | x :: m,o,b,l,a,t,q,o1,l1,a1,t1,q1,n,he,h,ho,hd=>by
    have hx:=h x (List.mem_cons_self ..)
    rw [List.length_cons] at ho
    rw [List.flatMap_cons] at hd
    obtain ⟨l',a',t',l2,t2,q2,e1,e2⟩:=old_stmt T ls hls hx (m.flatMap segsO) he (by omega) n hd
    have hd2:ls.drop (n + (segsO x).length) = m.flatMap segsO:=by
      rw [← List.drop_drop,hd,List.drop_left]
    obtain ⟨v,h1,h2⟩:=old_all T hT ls hls m o1 true l' a' t' 0 _ l2 a' t2 q2 (n + (segsO x).length) e2 (fun y hy=>h y (List.mem_cons_of_mem _ hy)) (by simp only [List.length_append,List.length_cons,List.length_nil]; omega) hd2
    refine ⟨⟨x.Label,x.Text,a'⟩ :: v,?_,?_⟩
    · unfold Same at h1 ⊢
      rw [List.map_cons,List.map_cons,h1]
    · refine e1.trans (h2.trans ?_)
      rw [List.append_assoc]; rfl
theorem old_back (l:List api.Line) (hok:∀ x ∈ l,okLine x = true) (hl:l.length ≤ 200) (ht:(flatW rowO l).length ≤ 8000):∃ v,Same l v ∧ Src.Old (B (flatW rowO l)) = some (v,0,0):=by
  have hln:=(linesL_len (flatW rowO l) []).1
  rw [List.length_nil,Nat.add_zero] at hln
  obtain ⟨v,h1,h2⟩:=old_all (B (flatW rowO l)) (by rw [size_B]; exact ht) (linesL (flatW rowO l) []) (by omega) l [] false 0 0 ⟨#[]⟩ 0 [] 0 0 ⟨#[]⟩ 0 0 (end_none ..) hok (by rw [List.length_nil]; omega) (lines_flatO l hok)
  refine ⟨v,h1,?_⟩
  unfold Src.Old
  exact bindE (lines_eq _ (by omega)) (letV rfl h2)
theorem same_at {l v:List api.Line} (h:Same l v):l.length = v.length ∧ ∀ i (h1:i < l.length) (h2:i < v.length),l[i].Label = v[i].Label ∧ l[i].Text = v[i].Text:=by
  unfold Same at h
  have hl:l.length = v.length:=by
    have:=congrArg List.length h
    rw [List.length_map,List.length_map] at this
    exact this.symm
  refine ⟨hl,fun i h1 h2=>?_⟩
  have:=congrArg (fun z=>z[i]?) h
  simp only [List.getElem?_map,List.getElem?_eq_getElem h1,List.getElem?_eq_getElem h2,Option.map_some,Option.some.injEq,Prod.mk.injEq] at this
  exact ⟨this.1.symm,this.2.symm⟩
theorem same_lines {l v:List api.Line} (h:Same l v) (hlen:l.length < 2 ^ 40):Ref3.SameLines l v false = some true:=by
  obtain ⟨h1,h2⟩:=same_at h
  unfold Ref3.SameLines
  refine letV rfl (letV rfl (letV (y:=false) (by rw [h1]; exact bne_self_eq_false _) (bF ?_)))
  have go:∀ m i:Nat,i + m = l.length → Ref3.SameLines.l0 l v false (i:Int) = some true:=by
    intro m
    induction m with
    | zero =>
      intro i hi
      unfold Ref3.SameLines.l0
      refine loopO_end ?_
      show Ref3.SameLines.s0 l v false (i:Int) = _
      unfold Ref3.SameLines.s0
      exact letV rfl (letF (decide_eq_false (by omega)) rfl)
    | succ m ih =>
      intro i hi
      have hil:i < l.length:=by omega
      have hiv:i < v.length:=by omega
      obtain ⟨e1,e2⟩:=h2 i hil hiv
      have gl:l[((i:Nat):Int).toNat]? = some l[i]:=by rw [Int.toNat_natCast,List.getElem?_eq_getElem hil]
      have gv:v[((i:Nat):Int).toNat]? = some v[i]:=by rw [Int.toNat_natCast,List.getElem?_eq_getElem hiv]
      unfold Ref3.SameLines.l0
      refine loopO_next (t:=(false,((i + 1:Nat):Int))) ?_ (ih (i + 1) (by omega))
      show Ref3.SameLines.s0 l v false (i:Int) = _
      unfold Ref3.SameLines.s0
      exact letV rfl (letT (decide_eq_true (by omega)) (chkE (by omega) (bindE gl (chkE (by omega) (bindE gv (letF (by rw [e1]; exact bne_self_eq_false _) (chkE (by omega) (bindE gl (chkE (by omega) (bindE gv (letF (by rw [e2,beq_self_eq_true]; rfl) (bF (letV (w64n (by omega) (by omega)) rfl)))))))))))))
  exact go l.length 0 (by omega)
theorem wr_cases (row:api.Line → BS) (l:List api.Line):(wr row l).2 ≠ 0 ∨ (validS l = true ∧ (flatW row l).length ≤ 8000 ∧ wr row l = (B (flatW row l),0)):=by
  unfold wr
  by_cases hv:validS l = true
  · rw [if_pos hv]
    by_cases h8:8000 < (flatW row l).length
    · rw [if_pos h8]; exact .inl (by decide)
    · rw [if_neg h8]; exact .inr ⟨hv,by omega,rfl⟩
  · rw [if_neg hv]; exact .inl (by decide)
theorem FormBack_of (hA:Law3.Awake = some true) (l:List api.Line) (hl:l.length < 9223372036854775808):Law3.FormBack l = some true:=by
  obtain ⟨b,h1,h2⟩:=isLong_eq l hl
  unfold Law3.FormBack
  refine bindE h1 ?_
  cases b with
  | true=>exact bT (bindE hA rfl)
  | false =>
    have h3:=h2 rfl
    have hj:Law3.FormBack.j0 l = some true:=by
      unfold Law3.FormBack.j0
      refine bindE (writeOld_eq l h3) ?_
      rcases wr_cases rowO l with h4 | ⟨hv,h4,h5⟩
      · exact letF (beq_eq_false_iff_ne.2 h4) (bindE hA rfl)
      · rw [h5]
        obtain ⟨v,k1,k2⟩:=old_back l (allOk hv).1 (allOk hv).2 h4
        exact letV (y:=true) rfl (bT (bindE k2 (letV (y:=false) rfl (bF (bindE (same_lines k1 (by omega)) (letV (y:=false) rfl (bF (bindE hA rfl))))))))
    refine bF (bindE (writeNew_eq l h3) ?_)
    rcases wr_cases rowN l with h4 | ⟨hv,h4,h5⟩
    · exact letF (beq_eq_false_iff_ne.2 h4) hj
    · rw [h5]
      obtain ⟨v,k1,k2⟩:=new_back l (allOk hv).1 (allOk hv).2 h4
      exact letV (y:=true) rfl (bT (bindE k2 (letV (y:=false) rfl (bF (bindE (same_lines k1 (by omega)) (letV (y:=false) rfl (bF hj)))))))
end Go.Q
