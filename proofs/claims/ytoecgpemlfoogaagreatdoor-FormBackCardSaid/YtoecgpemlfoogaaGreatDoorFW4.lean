import Derived.Test.YtoecgpemlfoogaaGreatDoorFW3
import Derived.Test.YtoecgpemlfoogaaGreatDoorNC
namespace Go.Q
open Go
set_option maxRecDepth 100000
set_option maxHeartbeats 4000000
theorem quiet_app:∀ (x y:BS) (q:UInt8),quiet (x ++ y) q ↔ quiet x q ∧ quiet y (x.foldl nx q)
  | [],y,q=>⟨fun h=>⟨trivial,h⟩,fun h=>h.2⟩
  | c :: r,y,q=>by
    show (_ ∧ quiet (r ++ y) (nx q c)) ↔ (_ ∧ quiet r (nx q c)) ∧ _
    rw [quiet_app r y,and_assoc]; rfl
theorem quiet_dig:∀ l:BS,l.all dig = true → quiet l 0
  | [],_=>trivial
  | c :: r,h=>by
    simp only [List.all_cons,Bool.and_eq_true] at h
    obtain ⟨d1,d2⟩:=dig_b h.1
    refine ⟨fun e=>?_,by rw [nx_dig h.1]; exact quiet_dig r h.2⟩
    rcases e.1 with rfl | rfl
    · exact absurd d2 (by decide)
    · exact absurd d1 (by decide)
theorem lbl_dig:∀ (k n:Nat),n ≤ k → (lbl n).all dig = true
  | 0,n,h=>by
    obtain rfl:n = 0:=by omega
    rfl
  | k + 1,n,h=>by
    rcases Nat.eq_zero_or_pos n with e | e
    · subst e; rfl
    · rw [lbl_step e,List.all_append,lbl_dig k (n / 10) (by omega)]
      have hm:n % 10 < 10:=Nat.mod_lt _ (by decide)
      generalize n % 10 = m at hm
      match m,hm with
      | 0,_=>rfl
      | 1,_=>rfl
      | 2,_=>rfl
      | 3,_=>rfl
      | 4,_=>rfl
      | 5,_=>rfl
      | 6,_=>rfl
      | 7,_=>rfl
      | 8,_=>rfl
      | 9,_=>rfl
      | m + 10,h=>omega
theorem dval_app:∀ (x y:BS) (a:Nat),dval a (x ++ y) = dval (dval a x) y
  | [],_,_=>rfl
  | c :: r,y,a=>dval_app r y _
theorem lbl_val:∀ (k n:Nat),n ≤ k → dval 0 (lbl n) = n
  | 0,n,h=>by
    obtain rfl:n = 0:=by omega
    rfl
  | k + 1,n,h=>by
    rcases Nat.eq_zero_or_pos n with e | e
    · subst e; rfl
    · rw [lbl_step e,dval_app,lbl_val k (n / 10) (by omega)]
      show 10 * (n / 10) + ((UInt8.ofNat (48 + n % 10)).toNat - 48) = n
      have:(UInt8.ofNat (48 + n % 10)).toNat = 48 + n % 10:=by
        rw [UInt8.toNat_ofNat']; omega
      omega
theorem lbl_ne {n:Nat} (h:0 < n):lbl n ≠ []:=by
  rw [lbl_step h]; simp
theorem okB_dig {c:UInt8} (h:dig c = true):okB c = true:=by
  obtain ⟨d1,d2⟩:=dig_b h
  unfold okB
  rw [decide_eq_false (by omega),decide_eq_false (by omega)]; rfl
theorem all_dig {l:BS} (h:l.all dig = true):l.all okB = true:=by
  rw [List.all_eq_true] at h ⊢
  exact fun x hx=>okB_dig (h x hx)
structure StT (t:BS):Prop where
  ne:t ≠ []
  trm:tr t = t
  ok:t.all okB = true
  fold:t.foldl nx 0 = 0
  qt:quiet t 0
  na:amp t = false
  nl:labelled t = false
  st:stOK t = true
theorem stT {t:BS} (h:stOK t = true):StT t:=by
  have h':=h
  unfold stOK at h'
  simp only [Bool.and_eq_true,Bool.not_eq_true',decide_eq_true_eq,beq_iff_eq,beq_eq_false_iff_ne] at h'
  obtain ⟨h1,h2,h3,h4,h5,h6,h7,h8⟩:=h'
  refine ⟨h1,h2,h3,h4,?_,h7,h8,h⟩
  have h9:=find_two t 0 0
  rw [h4,decide_eq_true h5,decide_eq_true h6] at h9
  simp only [beq_self_eq_true,Bool.and_self,Bool.and_eq_true,decide_eq_true_eq] at h9
  rcases find_spec t 0 0 with ⟨k,e,_⟩ | ⟨_,e⟩
  · rw [e] at h9
    have:=h9.1
    simp only at this
    omega
  · exact e
theorem StT.trR {t:BS} (h:StT t):Lib.trimRightB t 32 = t ∧ t.dropWhile (· == 32) = t:=by
  have h1:=h.trm
  have h2:=(List.dropWhile_sublist (· == 32) (l:=t)).length_le
  have h3:=trimR_len (t.dropWhile (· == 32))
  unfold tr at h1
  have h4:=congrArg List.length h1
  have h5:t.dropWhile (· == 32) = t:=(List.dropWhile_sublist (· == 32) (l:=t)).eq_of_length (by omega)
  rw [h5] at h1
  exact ⟨h1,h5⟩
def full (x:api.Line):BS:=headN x.Label.toNat ++ L x.Text
structure Full (x:api.Line):Prop where
  ok:(full x).all okB = true
  fold:(full x).foldl nx 0 = 0
  qt:quiet (full x) 0
  pe:∀ a,pieceE (full x) a = 0
  pl:∀ a,pieceL (full x) a = [⟨x.Label,x.Text,a⟩]
  len:(full x).length ≤ 8100
theorem full_st {x:api.Line} (h:okLine x = true):StT (L x.Text):=stT (okL h).2.2.2
theorem tr_front {c:UInt8} (hc:(c == 32) = false) (r t:BS) (ht:t ≠ []) (h:Lib.trimRightB t 32 = t):tr (c :: r ++ t) = c :: r ++ t:=by
  unfold tr
  rw [List.cons_append,List.dropWhile_cons,hc]
  simp only [Bool.false_eq_true,if_false]
  rw [← List.cons_append,trimR_app,h,if_neg ht]
theorem preD_app {a:BS} (ha:a.all dig = true) (t:BS):preD (a ++ 32 :: t) = a.length:=by
  induction a with
  | nil=>show preD (32 :: t) = 0; rw [preD_cons,if_neg (by decide)]
  | cons c r ih =>
    simp only [List.all_cons,Bool.and_eq_true] at ha
    rw [List.cons_append,preD_cons,if_pos ha.1,ih ha.2,List.length_cons]
theorem full_ok {x:api.Line} (h:okLine x = true):Full x:=by
  obtain ⟨h1,h2,h3,_⟩:=okL h
  have S:=full_st h
  have hlen:(full x).length ≤ 8100:=by
    have:=headN_le h2
    unfold full
    rw [List.length_append,L_len]; omega
  by_cases h0:x.Label.toNat = 0
  · have hf:full x = L x.Text:=by unfold full headN; rw [if_pos h0,List.nil_append]
    refine ⟨by rw [hf]; exact S.ok,by rw [hf]; exact S.fold,by rw [hf]; exact S.qt,fun a=>?_,fun a=>?_,hlen⟩
    · rw [hf]; unfold pieceE; rw [S.trm,if_neg S.ne,S.nl,if_neg (by decide),if_pos S.st]
    · rw [hf]; unfold pieceL; rw [S.trm,if_neg S.ne,S.nl,if_neg (by decide),B_L,show x.Label = 0 by omega]
  · obtain ⟨n,hn⟩:∃ n,n = x.Label.toNat:=⟨_,rfl⟩
    have hl:x.Label = (n:Int):=by omega
    have hd:=lbl_dig n n (Nat.le_refl _)
    have hv:=lbl_val n n (Nat.le_refl _)
    have hle:(lbl n).length ≤ 5:=by rw [hn]; exact lbl_le h2
    have hne:lbl n ≠ []:=lbl_ne (by omega)
    have hf:full x = lbl n ++ 32 :: L x.Text:=by
      unfold full headN
      rw [if_neg h0,hn,List.append_assoc]; rfl
    have hfold:(lbl n).foldl nx 0 = 0:=fold_dig _ hd
    have htr:tr (full x) = full x:=by
      rw [hf]
      cases hc:lbl n with
      | nil=>exact absurd hc hne
      | cons c r =>
        have hcd:dig c = true:=by
          rw [hc,List.all_cons,Bool.and_eq_true] at hd
          exact hd.1
        have hc32:(c == 32) = false:=by
          rw [beq_eq_false_iff_ne]
          intro e
          subst e
          exact absurd hcd (by decide)
        have:=tr_front hc32 r (32 :: L x.Text) (by simp) (by rw [trimR_sp,S.trR.1,if_neg S.ne])
        exact this
    have hpre:preD (full x) = (lbl n).length:=by rw [hf]; exact preD_app hd _
    have hlab:labelled (full x) = true:=by
      unfold labelled
      have hp:0 < (lbl n).length:=List.length_pos_iff.2 hne
      rw [hpre,decide_eq_true hp,hf]
      rw [decide_eq_true (by rw [List.length_append,List.length_cons]; omega),List.getD_eq_getElem?_getD,List.getElem?_append_right (Nat.le_refl _),Nat.sub_self]
      rfl
    have htake:(full x).take (lbl n).length = lbl n:=by rw [hf]; exact List.take_left ..
    have hdrop:(full x).drop (lbl n).length = 32 :: L x.Text:=by rw [hf]; exact List.drop_left ..
    have hfne:full x ≠ []:=by rw [hf]; simp
    have htt:tr (32 :: L x.Text) = L x.Text:=by rw [tr_sp,S.trm]
    refine ⟨?_,?_,?_,fun a=>?_,fun a=>?_,hlen⟩
    · rw [hf,List.all_append,List.all_cons,all_dig hd,S.ok]; rfl
    · rw [hf,List.foldl_append,hfold]; exact S.fold
    · rw [hf,quiet_app,hfold]; exact ⟨quiet_dig _ hd,fun e=>by rcases e.1 with e | e <;> exact absurd e (by decide),S.qt⟩
    · unfold pieceE
      rw [htr,if_neg hfne,hlab,if_pos rfl,hpre,htake,hdrop,hv,htt,S.st,decide_eq_true hle,decide_eq_true (by omega:0 < n)]; rfl
    · unfold pieceL
      rw [htr,if_neg hfne,hlab,if_pos rfl,hpre,htake,hdrop,hv,htt,B_L,hl]
theorem linesL_run:∀ (p now rest:BS),(∀ c ∈ p,c ≠ 10) → linesL (p ++ 10 :: rest) now = (now ++ p) :: linesL rest []
  | [],now,rest,_=>by
    show linesL (10 :: rest) now = _
    rw [linesL,if_pos rfl,List.append_nil]
  | c :: r,now,rest,h=>by
    show linesL (c :: (r ++ 10 :: rest)) now = _
    rw [linesL,if_neg (h c (List.mem_cons_self ..)),linesL_run r _ rest (fun d hd=>h d (List.mem_cons_of_mem _ hd)),List.append_assoc]; rfl
theorem no10 {l:BS} (h:l.all okB = true):∀ c ∈ l,c ≠ 10:=by
  rw [List.all_eq_true] at h
  intro c hc e
  subst e
  exact absurd (h _ hc) (by decide)
theorem okB_take {l:BS} (n:Nat) (h:l.all okB = true):(l.take n).all okB = true:=by
  rw [List.all_eq_true] at h ⊢
  exact fun x hx=>h x (List.mem_of_mem_take hx)
theorem okB_drop {l:BS} (n:Nat) (h:l.all okB = true):(l.drop n).all okB = true:=by
  rw [List.all_eq_true] at h ⊢
  exact fun x hx=>h x (List.mem_of_mem_drop hx)
def segs (n:Nat) (e b:BS) (p s:BS):List BS :=
  if h:0 < n ∧ n < s.length then (p ++ s.take n ++ e) :: segs n e b b (s.drop n) else [p ++ s]
termination_by s.length
decreasing_by simp only [List.length_drop]; omega
theorem segs_go {n:Nat} {e b p s:BS} (h0:0 < n) (h:n < s.length):segs n e b p s = (p ++ s.take n ++ e) :: segs n e b b (s.drop n):=by rw [segs,dif_pos ⟨h0,h⟩]
theorem segs_end {n:Nat} {e b p s:BS} (h:¬ n < s.length):segs n e b p s = [p ++ s]:=by rw [segs,dif_neg (fun h'=>h h'.2)]
theorem lines_cut {n:Nat} {e b:BS} (h0:0 < n) (he:e.all okB = true) (hb:b.all okB = true):∀ (k:Nat) (s p rest:BS),s.length ≤ k → s.all okB = true → p.all okB = true →
    linesL (p ++ cut n (e ++ 10 :: b) s ++ rest) [] = segs n e b p s ++ linesL rest []
  | k,s,p,rest,hk,hs,hp=>by
    by_cases h:n < s.length
    · match k,hk with
      | 0,hk=>omega
      | k + 1,hk =>
        have ih:=lines_cut h0 he hb k (s.drop n) b rest (by rw [List.length_drop]; omega) (okB_drop n hs) hb
        rw [cut_go h0 h,segs_go h0 h,List.cons_append,← ih]
        have e1:p ++ (s.take n ++ (e ++ 10 :: b) ++ cut n (e ++ 10 :: b) (s.drop n)) ++ rest = (p ++ s.take n ++ e) ++ 10 :: (b ++ cut n (e ++ 10 :: b) (s.drop n) ++ rest):=by
          simp only [List.append_assoc,List.cons_append,List.nil_append]
        rw [e1,linesL_run _ _ _ (no10 (by rw [List.all_append,List.all_append,hp,okB_take n hs,he]; rfl)),List.nil_append]
    · rw [cut_end h,segs_end h]
      have e1:p ++ (s ++ [10]) ++ rest = (p ++ s) ++ 10 :: rest:=by simp only [List.append_assoc,List.cons_append,List.nil_append]
      rw [e1,linesL_run _ _ _ (no10 (by rw [List.all_append,hp,hs]; rfl)),List.nil_append]; rfl
end Go.Q
