import Derived.Test.YtoecgpemlfoogaaGreatDoorNA
namespace Go.Q
open Go
def tag (a:Int) (s:BS):List PL:=s.map fun c=>(c,a)
theorem bys_tag (a:Int) (s:BS):bys (tag a s) = s:=tag_fst a s
theorem bys_app (x y:List PL):bys (x ++ y) = bys x ++ bys y:=List.map_append
theorem tag_app (a:Int) (x y:BS):tag a (x ++ y) = tag a x ++ tag a y:=List.map_append
theorem tag_len (a:Int) (s:BS):(tag a s).length = s.length:=List.length_map _
theorem good_tag {a:Int} (h:0 < a) (s:BS):good (tag a s):=fun p hp=>by
  obtain ⟨c,_,rfl⟩:=List.mem_map.1 hp
  exact h
theorem good_app {x y:List PL} (hx:good x) (hy:good y):good (x ++ y):=fun p hp=>(List.mem_append.1 hp).elim (hx p) (hy p)
def quiet:BS → UInt8 → Prop
  | [],_=>True
  | c :: r,q=>¬ ((c = 59 ∨ c = 33) ∧ q = 0) ∧ quiet r (nx q c)
def cutR:BS → UInt8 → BS
  | [],_=>[]
  | c :: r,q=>if c = 33 ∧ q = 0 then [] else c :: cutR r (nx q c)
theorem cutR_quiet:∀ (s t:BS) (q:UInt8),quiet s q → cutR (s ++ t) q = s ++ cutR t (s.foldl nx q)
  | [],_,_,_=>rfl
  | c :: r,t,q,h=>by
    have h1:¬ (c = 33 ∧ q = 0):=fun e=>h.1 ⟨.inr e.1,e.2⟩
    show (if c = 33 ∧ q = 0 then [] else c :: cutR (r ++ t) (nx q c)) = _
    rw [if_neg h1,cutR_quiet r t _ h.2]; rfl
theorem step_quiet (a:Int):∀ (s:BS) (f:List (List PL)) (c:List PL) (q:UInt8),quiet s q → (tag a s).foldl stepG (f,c,q) = (f,c ++ tag a s,s.foldl nx q)
  | [],f,c,q,_=>by simp [tag]
  | x :: r,f,c,q,h=>by
    have h1:¬ (x = 59 ∧ q = 0):=fun e=>h.1 ⟨.inl e.1,e.2⟩
    show ((tag a r).foldl stepG (stepG (f,c,q) (x,a))) = _
    have e:stepG (f,c,q) (x,a) = (f,c ++ [(x,a)],nx q x):=if_neg h1
    rw [e,step_quiet a r _ _ _ h.2]
    simp [tag]
theorem quiet_take:∀ (s:BS) (k:Nat) (q:UInt8),quiet s q → quiet (s.take k) q
  | [],k,_,_=>by rw [List.take_nil]; trivial
  | c :: r,0,_,_=>trivial
  | c :: r,k + 1,q,h=>by rw [List.take_succ_cons]; exact ⟨h.1,quiet_take r k _ h.2⟩
theorem find_spec:∀ (s:BS) (i:Nat) (q:UInt8),(∃ k,findL [59,33] s i q = (((i + k:Nat):Int),0) ∧ (∃ h:k < s.length,s[k] = 59 ∨ s[k] = 33) ∧ (s.take k).foldl nx q = 0 ∧ quiet (s.take k) q) ∨ (findL [59,33] s i q = (-1,s.foldl nx q) ∧ quiet s q)
  | [],i,q=>.inr ⟨rfl,trivial⟩
  | c :: r,i,q=>by
    have hc:[(59:UInt8),33].contains c = (c == 59 || c == 33):=by
      simp [List.contains,List.elem]
      cases c == 59 <;> cases c == 33 <;> rfl
    unfold findL
    rw [hc]
    by_cases h:(c = 59 ∨ c = 33) ∧ q = 0
    · have hb:(q == 0 && (c == 59 || c == 33)) = true:=by simpa [Bool.and_eq_true,Bool.or_eq_true,beq_iff_eq] using ⟨h.2,h.1⟩
      rw [if_pos hb]
      refine .inl ⟨0,by rw [h.2]; rfl,⟨by simp,?_⟩,by rw [h.2]; rfl,trivial⟩
      simpa using h.1
    · have hb:¬ (q == 0 && (c == 59 || c == 33)) = true:=by
        intro e; apply h
        simp only [Bool.and_eq_true,Bool.or_eq_true,beq_iff_eq] at e
        exact ⟨e.2,e.1⟩
      rw [if_neg hb]
      rcases find_spec r (i + 1) (nx q c) with ⟨k,e1,⟨h2,h3⟩,e4,e5⟩ | ⟨e1,e2⟩
      · refine .inl ⟨k + 1,by rw [e1]; congr 2; omega,⟨by simp; omega,by simpa using h3⟩,?_,?_⟩
        · rw [List.take_succ_cons,List.foldl_cons]; exact e4
        · rw [List.take_succ_cons]; exact ⟨h,e5⟩
      · exact .inr ⟨e1,h,e2⟩
theorem trimR_app (x y:BS):Lib.trimRightB (x ++ y) 32 = if Lib.trimRightB y 32 = [] then Lib.trimRightB x 32 else x ++ Lib.trimRightB y 32:=by
  unfold Lib.trimRightB
  rw [List.reverse_append,List.dropWhile_append]
  split
  · rename_i h
    rw [List.isEmpty_iff.1 h]; simp
  · rename_i h
    have:¬ (y.reverse.dropWhile (· == 32)).reverse = []:=by
      intro e; apply h
      rw [List.isEmpty_iff]
      simpa using e
    rw [if_neg this]; simp
def zOf (s:BS) (q:UInt8):BS × Bool :=
  if amp (Lib.trimRightB (cutR s q) 32) = true then ((Lib.trimRightB (cutR s q) 32).take ((Lib.trimRightB (cutR s q) 32).length - 1),true) else (cutR s q,false)
theorem amp_app (x t:BS) (h:t ≠ []):amp (x ++ t) = amp t:=by
  have:=List.length_pos_iff.2 h
  unfold amp
  rw [List.length_append,List.getD_eq_getElem?_getD,List.getElem?_append_right (by omega),show x.length + t.length - 1 - x.length = t.length - 1 by omega,← List.getD_eq_getElem?_getD]
theorem zOf_semi (x r:BS) (q:UInt8) (hx:quiet x q) (hq:x.foldl nx q = 0):zOf (x ++ 59 :: r) q = (x ++ 59 :: (zOf r 0).1,(zOf r 0).2):=by
  have hc:cutR (x ++ 59 :: r) q = x ++ 59 :: cutR r 0:=by
    rw [cutR_quiet x _ q hx,hq]
    show x ++ (if (59:UInt8) = 33 ∧ (0:UInt8) = 0 then [] else 59 :: cutR r (nx 0 59)) = _
    rw [if_neg (by decide)]; rfl
  have h59:Lib.trimRightB (59 :: cutR r 0) 32 = 59 :: Lib.trimRightB (cutR r 0) 32:=trimR_ne rfl _
  have ht:Lib.trimRightB (x ++ 59 :: cutR r 0) 32 = x ++ 59 :: Lib.trimRightB (cutR r 0) 32:=by
    rw [trimR_app,h59,if_neg (by simp)]
  unfold zOf
  rw [hc,ht,amp_app _ _ (by simp)]
  generalize Lib.trimRightB (cutR r 0) 32 = t
  cases t with
  | nil=>rfl
  | cons c t =>
    have:amp (59 :: c :: t) = amp (c :: t):=amp_app [59] (c :: t) (by simp)
    rw [this]
    split
    · show ((x ++ 59 :: c :: t).take ((x ++ 59 :: c :: t).length - 1),true) = (x ++ 59 :: (c :: t).take ((c :: t).length - 1),true)
      congr 1
      simp only [List.length_append,List.length_cons,Nat.add_sub_cancel]
      rw [show x.length + (t.length + 1 + 1) - 1 = x.length + (t.length + 1) by omega,List.take_length_add_append,List.take_succ_cons]
    · rfl
theorem tr_nil {x:BS} (h:tr x = []):x.dropWhile (· == 32) = []:=by
  rcases drop_cases x with h1 | ⟨c,r,h1,h2⟩
  · exact h1
  · obtain ⟨r',h3⟩:=trimR_cons h2 r
    unfold tr at h
    rw [h1,h3] at h
    cases h
theorem tr_nil' {x:BS} (h:x.dropWhile (· == 32) = []):tr x = []:=by unfold tr; rw [h]; rfl
def AT (c:List PL) (a:Int):Prop:=tr (bys c) ≠ [] → a = atP c
theorem AT.put {c:List PL} {a at':Int} (h:AT c a) (s:BS):AT (c ++ tag at' s) (if tr (bys c) = [] then at' else a):=by
  intro hne
  have hd:(c ++ tag at' s).dropWhile (fun p=>p.1 == 32) = if (c.dropWhile (fun p=>p.1 == 32)).isEmpty then (tag at' s).dropWhile (fun p=>p.1 == 32) else c.dropWhile (fun p=>p.1 == 32) ++ tag at' s:=List.dropWhile_append
  by_cases hc:tr (bys c) = []
  · rw [if_pos hc]
    have h1:c.dropWhile (fun p=>p.1 == 32) = []:=by
      have:=tr_nil hc
      rw [← bys_drop] at this
      exact List.map_eq_nil_iff.1 this
    rw [h1] at hd
    simp only [List.isEmpty_nil,if_true] at hd
    unfold atP
    rw [hd]
    cases e:(tag at' s).dropWhile (fun p=>p.1 == 32) with
    | nil =>
      exfalso
      apply hne
      apply tr_nil'
      rw [← bys_drop,hd,e]; rfl
    | cons p r =>
      have:p ∈ tag at' s:=(List.dropWhile_sublist _).mem (by rw [e]; exact List.mem_cons_self)
      obtain ⟨x,_,rfl⟩:=List.mem_map.1 this
      rfl
  · rw [if_neg hc,h hc]
    have h1:(c.dropWhile (fun p=>p.1 == 32)).isEmpty = false:=by
      rw [Bool.eq_false_iff]; intro e
      apply hc
      apply tr_nil'
      rw [← bys_drop,List.isEmpty_iff.1 e]; rfl
    rw [h1] at hd
    simp only [Bool.false_eq_true,if_false] at hd
    unfold atP
    rw [hd]
    cases e:c.dropWhile (fun p=>p.1 == 32) with
    | nil=>rw [e] at h1; cases h1
    | cons p r=>rfl
theorem put_eq (o:List api.Line) (w:Int) (b:Bool) (l a:Int) (c:List PL) (q at':Int) (s:BS) (hc:c.length < 2 ^ 40) (hs:s.length < 2 ^ 40):Src.reader.put o w b l a (B (bys c)) q at' (B s) = some (o,w,true,l,(if tr (bys c) = [] then at' else a),B (bys (c ++ tag at' s)),q):=by
  have hsz:(B s).size = s.length:=rfl
  have hsc:(B (bys c)).size = c.length:=bys_len c
  unfold Src.reader.put
  rw [strim_eq _ (by rw [bys_len]; omega)]
  simp only [Option.bind_some,letk]
  rw [eqL,L_B,L_e0]
  unfold Src.reader.put.j0
  simp only [letk]
  rw [chk_pos (by omega),chk_pos (by omega),B_appR,bys_app,bys_tag]
  by_cases h:tr (bys c) = []
  · rw [if_pos h,h]; rfl
  · rw [if_neg h,show (tr (bys c) == []) = false from beq_eq_false_iff_ne.2 h]; rfl
theorem piece_at {x:BS} {a b:Int} (h:tr x ≠ [] → a = b):pieceE x a = pieceE x b ∧ pieceL x a = pieceL x b:=by
  by_cases ht:tr x = []
  · unfold pieceE pieceL; simp only [if_pos ht,and_self]
  · rw [h ht]; exact ⟨rfl,rfl⟩
theorem overP (o:List api.Line) (w l a:Int) (c:List PL) (hc:good c) (hx:c.length < 2 ^ 40) (ho:o.length < 2 ^ 40) (h0:0 ≤ w) (ha:AT c a):∃ o1,Src.reader.over_ o w true l a (B (bys c)) (((bys c).foldl nx 0).toNat:Int) = some (o1,mw w (pE c),false,0,0,⟨#[]⟩,0) ∧ (mw w (pE c) = 0 → o1 = o ++ pL c) ∧ o1.length ≤ o.length + 1:=by
  obtain ⟨e1,e2⟩:=piece_at ha
  have:=over_eq o w l a (bys c) (by rw [bys_len]; exact hx) ho h0 (fun h=>by rw [ha h]; exact atP_pos hc h)
  rw [e1,e2] at this
  exact this
end Go.Q
namespace Go.Q
open Go
theorem cutsuf_eq (t:BS) (h:t.length < 2 ^ 62):Strs.CutSuffix (B t) ⟨#[38]⟩ = some (if amp t = true then (B (t.take (t.length - 1)),true) else (B t,false)):=by
  have hsz:(B t).size = t.length:=rfl
  have hs1:(⟨#[38]⟩:ByteArray).size = 1:=rfl
  unfold Strs.CutSuffix Slite.CutSuffix Slite.HasSuffix
  simp only [letk]
  rw [hs1]
  by_cases h0:t = []
  · subst h0; rfl
  have hp:=List.length_pos_iff.2 h0
  rw [decide_eq_true (by omega:((B t).size:Int) ≥ ((1:Nat):Int)),cond_true,w64n (by omega) (by omega),chk_pos (by omega)]
  simp only [Option.bind_some]
  rw [show (((B t).size:Int) - ((1:Nat):Int)).toNat = t.length - 1 by omega,ext_D,L_B,eqL,L_B]
  have hd:(t.drop (t.length - 1) == L (⟨#[38]⟩:ByteArray)) = amp t:=by
    unfold amp
    rw [show L (⟨#[38]⟩:ByteArray) = [38] from rfl,List.drop_eq_getElem_cons (by omega:t.length - 1 < t.length),List.drop_of_length_le (by omega),List.getD_eq_getElem?_getD,List.getElem?_eq_getElem (by omega:t.length - 1 < t.length)]
    show (t[t.length - 1] == 38 && true) = _
    rw [Bool.and_true]; rfl
  rw [hd,chk_pos (by omega),ext_B,L_B]
  cases amp t <;> rfl
theorem fold_amp (x:BS) (q:UInt8) (hq:QS q) (h:amp (Lib.trimRightB x 32) = true):((Lib.trimRightB x 32).take ((Lib.trimRightB x 32).length - 1)).foldl nx q = x.foldl nx q:=by
  obtain ⟨k,hk⟩:=trimR_rep x
  have hne:Lib.trimRightB x 32 ≠ []:=by intro e; rw [e] at h; cases h
  have hp:=List.length_pos_iff.2 hne
  have hs:Lib.trimRightB x 32 = (Lib.trimRightB x 32).take ((Lib.trimRightB x 32).length - 1) ++ [38]:=by
    conv=>lhs; rw [← List.take_append_drop ((Lib.trimRightB x 32).length - 1) (Lib.trimRightB x 32)]
    congr 1
    unfold amp at h
    rw [List.getD_eq_getElem?_getD,List.getElem?_eq_getElem (by omega:(Lib.trimRightB x 32).length - 1 < (Lib.trimRightB x 32).length),Option.getD_some,beq_iff_eq] at h
    rw [List.drop_eq_getElem_cons (by omega:(Lib.trimRightB x 32).length - 1 < (Lib.trimRightB x 32).length),List.drop_of_length_le (by omega),h]
  generalize (Lib.trimRightB x 32).take ((Lib.trimRightB x 32).length - 1) = y at hs ⊢
  have hy:=QS_fold y q hq
  rw [hk,hs,List.foldl_append,List.foldl_append]
  have h38:([38]:BS).foldl nx (y.foldl nx q) = y.foldl nx q:=by
    rcases hy with e | e | e <;> rw [e] <;> rfl
  rw [h38,fold_rep hy]
structure FreshOK (at':Int) (o:List api.Line) (w:Int) (c:List PL) (s:BS) (R:Option (List api.Line × Int × Bool × Int × Int × ByteArray × Int × Bool)) (m:Nat):Prop where
  ok:∃ o2 l2 a2,((zOf s ((bys c).foldl nx 0)).2 = true ∧
      R = some (o2,WF w ((tag at' (zOf s ((bys c).foldl nx 0)).1).foldl stepG ([],c,(bys c).foldl nx 0)).1,true,l2,a2,B (bys ((tag at' (zOf s ((bys c).foldl nx 0)).1).foldl stepG ([],c,(bys c).foldl nx 0)).2.1),((((tag at' (zOf s ((bys c).foldl nx 0)).1).foldl stepG ([],c,(bys c).foldl nx 0)).2.2.toNat:Nat):Int),true) ∧
      (WF w ((tag at' (zOf s ((bys c).foldl nx 0)).1).foldl stepG ([],c,(bys c).foldl nx 0)).1 = 0 → o2 = o ++ LF ((tag at' (zOf s ((bys c).foldl nx 0)).1).foldl stepG ([],c,(bys c).foldl nx 0)).1) ∧
      AT ((tag at' (zOf s ((bys c).foldl nx 0)).1).foldl stepG ([],c,(bys c).foldl nx 0)).2.1 a2 ∧
      ((tag at' (zOf s ((bys c).foldl nx 0)).1).foldl stepG ([],c,(bys c).foldl nx 0)).2.2 = (bys ((tag at' (zOf s ((bys c).foldl nx 0)).1).foldl stepG ([],c,(bys c).foldl nx 0)).2.1).foldl nx 0 ∨
    (zOf s ((bys c).foldl nx 0)).2 = false ∧
      R = some (o2,WF w (allG ((tag at' (zOf s ((bys c).foldl nx 0)).1).foldl stepG ([],c,(bys c).foldl nx 0))),false,0,0,⟨#[]⟩,0,false) ∧
      (WF w (allG ((tag at' (zOf s ((bys c).foldl nx 0)).1).foldl stepG ([],c,(bys c).foldl nx 0))) = 0 → o2 = o ++ LF (allG ((tag at' (zOf s ((bys c).foldl nx 0)).1).foldl stepG ([],c,(bys c).foldl nx 0))))) ∧ o2.length ≤ o.length + m + 1
theorem fresh_last (at':Int) (hat:0 < at') (x:BS) (o:List api.Line) (w:Int) (b:Bool) (l a:Int) (c:List PL) (q:Int) (m:Nat) (hc:good c) (hcl:c.length < 2 ^ 38) (hx:x.length < 2 ^ 38) (ho:o.length < 2 ^ 39) (h0:0 ≤ w) (ha:AT c a) (hq:quiet x ((bys c).foldl nx 0)) :
    ∃ R,Src.reader.fresh.j1 at' ((x.foldl nx ((bys c).foldl nx 0)).toNat:Int) o w l a (B (bys c)) q b (B x) = R.map .inr ∧
      ∀ s,cutR s ((bys c).foldl nx 0) = x → FreshOK at' o w c s R m:=by
  have hQ:QS ((bys c).foldl nx 0):=QS_fold _ _ (.inl rfl)
  have hbx:(B x).size = x.length:=rfl
  have htl:=trimR_len x
  unfold Src.reader.fresh.j1
  rw [show Strs.TrimRight (B x) ⟨#[32]⟩ = some (B (Lib.trimRightB x 32)) by unfold Strs.TrimRight; rw [chk_pos ⟨by omega,rfl⟩,L_B]]
  simp only [Option.bind_some]
  rw [cutsuf_eq _ (by omega)]
  cases ham:amp (Lib.trimRightB x 32) with
  | true =>
    simp only [if_true,Option.bind_some,cond_true]
    have htk:((Lib.trimRightB x 32).take ((Lib.trimRightB x 32).length - 1)).length < 2 ^ 40:=by rw [List.length_take]; omega
    rw [put_eq o w b l a c q at' _ (by omega) htk]
    refine ⟨some (_,_,_,_,_,_,_,_),rfl,fun s hs=>?_⟩
    have hz:zOf s ((bys c).foldl nx 0) = ((Lib.trimRightB x 32).take ((Lib.trimRightB x 32).length - 1),true):=by unfold zOf; rw [hs,if_pos ham]
    have hqt:quiet ((Lib.trimRightB x 32).take ((Lib.trimRightB x 32).length - 1)) ((bys c).foldl nx 0):=by
      obtain ⟨k,hk⟩:=trimR_rep x
      have:(Lib.trimRightB x 32).take ((Lib.trimRightB x 32).length - 1) = x.take ((Lib.trimRightB x 32).length - 1):=by
        have h2:∀ (t:BS) (kk n:Nat),n ≤ t.length → t.take n = (t ++ List.replicate kk 32).take n:=fun t kk n h=>(List.take_append_of_le_length h).symm
        exact (h2 _ k _ (by omega)).trans (by rw [← hk])
      rw [this]
      exact quiet_take x _ _ hq
    have hst:=step_quiet at' _ [] c _ hqt
    refine ⟨o,l,(if tr (bys c) = [] then at' else a),.inl ?_,by omega⟩
    rw [hz]
    simp only
    rw [hst]
    refine ⟨by first | rfl | trivial,?_,fun _=>by simp [LF],ha.put _,?_⟩
    · rw [fold_amp x _ hQ ham]; rfl
    · rw [bys_app,bys_tag,List.foldl_append]
  | false =>
    simp only [Bool.false_eq_true,if_false,Option.bind_some,cond_false]
    rw [put_eq o w b l a c q at' x (by omega) (by omega)]
    simp only [Option.bind_some]
    have hg:good (c ++ tag at' x):=good_app hc (good_tag hat x)
    have hgl:(c ++ tag at' x).length < 2 ^ 40:=by rw [List.length_append,tag_len]; omega
    obtain ⟨o1,k1,k2,k3⟩:=overP o w l (if tr (bys c) = [] then at' else a) (c ++ tag at' x) hg hgl (by omega) h0 (ha.put x)
    have hf:(bys (c ++ tag at' x)).foldl nx 0 = x.foldl nx ((bys c).foldl nx 0):=by rw [bys_app,bys_tag,List.foldl_append]
    rw [hf] at k1
    rw [k1]
    refine ⟨some (_,_,_,_,_,_,_,_),rfl,fun s hs=>?_⟩
    have hz:zOf s ((bys c).foldl nx 0) = (x,false):=by unfold zOf; rw [hs,ham]; simp
    have hst:=step_quiet at' x [] c _ hq
    refine ⟨o1,0,0,.inr ?_,by omega⟩
    rw [hz]
    simp only
    rw [hst]
    refine ⟨by first | rfl | trivial,rfl,fun h=>?_⟩
    rw [show allG ([],c ++ tag at' x,x.foldl nx ((bys c).foldl nx 0)) = [c ++ tag at' x] from rfl,LF_one]
    exact k2 h
theorem bys_fold0:(bys ([]:List PL)).foldl nx 0 = 0:=rfl
theorem fresh_l0 (at':Int) (hat:0 < at'):∀ (N:Nat) (s:BS),s.length ≤ N → s.length < 2 ^ 38 → ∀ (o:List api.Line) (w:Int) (b:Bool) (l a:Int) (c:List PL),good c → c.length < 2 ^ 37 → o.length + s.length < 2 ^ 39 → 0 ≤ w → AT c a →
    FreshOK at' o w c s (Src.reader.fresh.l0 at' o w b l a (B (bys c)) (((bys c).foldl nx 0).toNat:Int) (B s)) s.length:=by
  intro N
  induction N with
  | zero =>
    intro s hs hsl o w b l a c hc hcl ho h0 ha
    have:s = []:=List.eq_nil_of_length_eq_zero (by omega)
    subst this
    obtain ⟨R,k1,k2⟩:=fresh_last at' hat [] o w b l a c (((bys c).foldl nx 0).toNat:Int) 0 hc (by omega) (by decide) (by omega) h0 ha trivial
    have:Src.reader.fresh.l0 at' o w b l a (B (bys c)) (((bys c).foldl nx 0).toNat:Int) (B []) = R:=by
      rw [Src.reader.fresh.l0_eq,Src.reader.fresh.s0]
      rw [show Src.find (B []) ⟨#[59,33]⟩ (((bys c).foldl nx 0).toNat:Int) = _ from find_eq [] [59,33] _ (by decide)]
      show (Src.reader.fresh.j1 at' _ o w l a (B (bys c)) _ b (B [])).bind _ = _
      rw [show ((findL [59,33] [] 0 ((bys c).foldl nx 0)).2.toNat:Int) = (([]:BS).foldl nx ((bys c).foldl nx 0)).toNat from rfl,k1]
      cases R <;> rfl
    rw [this]
    exact k2 [] rfl
  | succ N ih =>
    intro s hs hsl o w b l a c hc hcl ho h0 ha
    have hsz:(B s).size = s.length:=rfl
    rw [Src.reader.fresh.l0_eq,Src.reader.fresh.s0]
    rw [show Src.find (B s) ⟨#[59,33]⟩ (((bys c).foldl nx 0).toNat:Int) = _ from find_eq s [59,33] _ (by omega)]
    simp only [Option.bind_some,letk]
    have hmap:∀ R:Option (List api.Line × Int × Bool × Int × Int × ByteArray × Int × Bool),((R.map (Sum.inr (α:=List api.Line × Int × Bool × Int × Int × ByteArray × Int × ByteArray))).bind (Sum.elim (fun v=>Src.reader.fresh.l0 at' v.1 v.2.1 v.2.2.1 v.2.2.2.1 v.2.2.2.2.1 v.2.2.2.2.2.1 v.2.2.2.2.2.2.1 v.2.2.2.2.2.2.2) some)) = R:=fun R=>by cases R <;> rfl
    rcases find_spec s 0 ((bys c).foldl nx 0) with ⟨k,e1,⟨hk,h3⟩,e4,e5⟩ | ⟨e1,e2⟩
    · rw [e1,Nat.zero_add]
      simp only
      have hbt:bt (B s) (k:Int) = ((s[k].toNat:Nat):Int):=bt_at hk
      rw [decide_eq_true (by omega:((k:Nat):Int) ≥ 0),cond_true,chk_pos (by omega),hbt,show ((s[k].toNat:Int) == 59) = (s[k] == 59) from beq_u8 _ 59 (by omega)]
      have hsplit:s = s.take k ++ s[k] :: s.drop (k + 1):=by rw [← List.drop_eq_getElem_cons hk,List.take_append_drop]
      have htk:(s.take k).length = k:=by rw [List.length_take]; omega
      unfold Src.reader.fresh.j2
      simp only [letk]
      rcases h3 with h3 | h3
      · rw [h3,show ((59:UInt8) == 59) = true from rfl,cond_true,chk_pos (by omega),Int.toNat_natCast,ext_B,L_B]
        rw [put_eq o w b l a c _ at' (s.take k) (by omega) (by omega)]
        simp only [Option.bind_some]
        have hg:good (c ++ tag at' (s.take k)):=good_app hc (good_tag hat _)
        have hgl:(c ++ tag at' (s.take k)).length < 2 ^ 40:=by rw [List.length_append,tag_len]; omega
        obtain ⟨o1,k1,k2,k3⟩:=overP o w l (if tr (bys c) = [] then at' else a) (c ++ tag at' (s.take k)) hg hgl (by omega) h0 (ha.put _)
        have hf:(bys (c ++ tag at' (s.take k))).foldl nx 0 = 0:=by rw [bys_app,bys_tag,List.foldl_append]; exact e4
        rw [hf,show (((0:UInt8).toNat:Nat):Int) = 0 from rfl] at k1
        rw [k1]
        simp only [Option.bind_some]
        rw [w64n (by omega) (by omega),show ((k:Int) + 1) = ((k + 1:Nat):Int) by omega,chk_pos (by omega),Int.toNat_natCast,ext_D,L_B]
        simp only [Option.bind_some,Sum.elim_inl]
        have hdl:(s.drop (k + 1)).length = s.length - (k + 1):=List.length_drop
        have hge:=pE_ge hg
        obtain ⟨o2,l2,a2,f1,f2⟩:=ih (s.drop (k + 1)) (by omega) (by omega) o1 (mw w (pE (c ++ tag at' (s.take k)))) false 0 0 [] (fun p hp=>by cases hp) (by decide) (by omega) (mw_ge h0 hge) (fun h=>absurd rfl h)
        rw [bys_fold0] at f1
        have hz:=zOf_semi (s.take k) (s.drop (k + 1)) ((bys c).foldl nx 0) e5 e4
        rw [← h3,← hsplit] at hz
        have hst:(tag at' (zOf s ((bys c).foldl nx 0)).1).foldl stepG ([],c,(bys c).foldl nx 0) = ([c ++ tag at' (s.take k)] ++ ((tag at' (zOf (s.drop (k + 1)) 0).1).foldl stepG ([],[],0)).1,((tag at' (zOf (s.drop (k + 1)) 0).1).foldl stepG ([],[],0)).2):=by
          rw [hz]
          simp only
          rw [tag_app,List.foldl_append,step_quiet at' _ [] c _ e5,e4,h3]
          show (tag at' (zOf (s.drop (k + 1)) 0).1).foldl stepG (stepG ([],c ++ tag at' (s.take k),0) (59,at')) = _
          rw [show stepG ([],c ++ tag at' (s.take k),0) (59,at') = ([c ++ tag at' (s.take k)],[],0) from if_pos ⟨rfl,rfl⟩,step_pre]
        have hgood:∀ x ∈ allG ((tag at' (zOf (s.drop (k + 1)) 0).1).foldl stepG ([],[],0)),good x:=good_fold _ _ (good_tag hat _) (fun x hx=>by simp [allG] at hx; subst hx; intro p hp; cases hp)
        refine ⟨o2,l2,a2,?_,by omega⟩
        rw [hst]
        rcases f1 with ⟨g1,g2,g3,g4,g5⟩ | ⟨g1,g2,g3⟩
        · refine .inl ⟨by rw [hz]; exact g1,?_,fun h=>?_,g4,g5⟩
          · rw [WF_app]; exact g2
          · rw [WF_app] at h
            have hw1:mw w (pE (c ++ tag at' (s.take k))) = 0:=WF_zero (mw_ge h0 hge) (fun x hx=>hgood x (by simp [allG]; exact .inl hx)) h
            rw [LF_app,LF_one,g3 h,k2 hw1,List.append_assoc]
        · have hall:allG ([c ++ tag at' (s.take k)] ++ ((tag at' (zOf (s.drop (k + 1)) 0).1).foldl stepG ([],[],0)).1,((tag at' (zOf (s.drop (k + 1)) 0).1).foldl stepG ([],[],0)).2) = [c ++ tag at' (s.take k)] ++ allG ((tag at' (zOf (s.drop (k + 1)) 0).1).foldl stepG ([],[],0)):=by simp [allG]
          rw [hall]
          refine .inr ⟨by rw [hz]; exact g1,?_,fun h=>?_⟩
          · rw [WF_app]; exact g2
          · rw [WF_app] at h
            have hw1:mw w (pE (c ++ tag at' (s.take k))) = 0:=WF_zero (mw_ge h0 hge) hgood h
            rw [LF_app,LF_one,g3 h,k2 hw1,List.append_assoc]
      · rw [h3,show ((33:UInt8) == 59) = false from rfl,cond_false]
        unfold Src.reader.fresh.j0
        simp only [letk]
        rw [decide_eq_true (by omega:((k:Nat):Int) ≥ 0),cond_true,chk_pos (by omega),Int.toNat_natCast,ext_B,L_B]
        obtain ⟨R,k1,k2⟩:=fresh_last at' hat (s.take k) o w b l a c (((bys c).foldl nx 0).toNat:Int) s.length hc (by omega) (by omega) (by omega) h0 ha e5
        rw [e4] at k1
        rw [k1,hmap]
        refine k2 s ?_
        conv=>lhs; rw [hsplit,h3,cutR_quiet _ _ _ e5,e4]
        show s.take k ++ (if (33:UInt8) = 33 ∧ (0:UInt8) = 0 then [] else _) = _
        rw [if_pos ⟨rfl,rfl⟩,List.append_nil]
    · rw [e1]
      simp only
      rw [decide_eq_false (by decide:¬ (-1:Int) ≥ 0),cond_false]
      unfold Src.reader.fresh.j2 Src.reader.fresh.j0
      simp only [letk]
      rw [decide_eq_false (by decide:¬ (-1:Int) ≥ 0),cond_false,cond_false]
      obtain ⟨R,k1,k2⟩:=fresh_last at' hat s o w b l a c (((bys c).foldl nx 0).toNat:Int) s.length hc (by omega) (by omega) (by omega) h0 ha e2
      rw [k1,hmap]
      refine k2 s ?_
      have:=cutR_quiet s [] _ e2
      rw [List.append_nil] at this
      rw [this]
      show s ++ [] = s
      rw [List.append_nil]
end Go.Q
namespace Go.Q
open Go
def cmt (s:BS):Bool:=match s.dropWhile (· == 32) with
  | []=>true
  | c :: _=>c == 33
theorem comment_new (s:BS) (h:s.length < 2 ^ 40):Src.Comment (B s) false = some (cmt s) ∧ Ref3.Comment (B s) false = some (cmt s):=by
  have h1:Src.Comment (B s) false = some (cmt s):=by
    unfold Src.Comment Strs.TrimLeft cmt
    rw [chk_pos rfl,L_B]
    simp only [Option.bind_some,letk,cond_false]
    rw [eqL,L_B,L_e0]
    show (bif (s.dropWhile (· == 32) == []) then _ else _) = _
    rcases drop_cases s with hd | ⟨c,r,hd,hc⟩
    · rw [hd]; rfl
    · rw [hd]
      have hs1:(B (c :: r)).size = r.length + 1:=rfl
      rw [show ((c :: r:BS) == []) = false from rfl,cond_false,show (B (Lib.trimLeftB s 32)) = B (c :: r) from congrArg B hd,chk_pos (by omega)]
      show some (((c.toNat:Nat):Int) == 33) = some (c == 33)
      rw [show ((c.toNat:Int) == 33) = (c == 33) from beq_u8 c 33 (by omega)]
  obtain ⟨b,k1,k2⟩:=comment_eq s false h
  rw [h1] at k1
  cases k1
  exact ⟨h1,k2⟩
theorem dw_nil (p:UInt8 → Bool):∀ l:BS,l.dropWhile p = [] ↔ ∀ x ∈ l,p x = true
  | []=>by simp
  | c :: r=>by
    rw [List.dropWhile_cons]
    by_cases h:p c = true
    · rw [if_pos h,dw_nil p r]; simp [h]
    · rw [if_neg h]; simp [h]
structure NI (n:Nat) (goes:Int) (o:List api.Line) (w:Int) (b:Bool) (a:Int) (t:ByteArray) (q:Int) (o':List api.Line) (W:Int) (G:List PL):Prop where
  g0:0 ≤ goes ∧ goes ≤ n
  gG:goes = 0 → G = []
  gb:0 < goes → b = true
  hg:good G
  hw:w = WF W (G.foldl stepG ([],[],0)).1
  W0:0 ≤ W
  ho:w = 0 → o = o' ++ LF (G.foldl stepG ([],[],0)).1
  ht:t = B (bys (G.foldl stepG ([],[],0)).2.1)
  hq:q = (((G.foldl stepG ([],[],0)).2.2.toNat:Nat):Int)
  hat:AT (G.foldl stepG ([],[],0)).2.1 a
  l1:o.length ≤ n * 10010
  l2:o'.length + G.length ≤ n * 10010
theorem good_all {G:List PL} (h:good G):∀ c ∈ allG (G.foldl stepG ([],[],0)),good c:=good_fold G _ h (fun c hc=>by simp [allG] at hc; subst hc; intro p hp; cases hp)
theorem NI.fins {n goes o w b a t q o' W G} (h:NI n goes o w b a t q o' W G):∀ c ∈ (G.foldl stepG ([],[],0)).1,good c:=fun c hc=>good_all h.hg c (List.mem_append_left _ hc)
theorem NI.w0 {n goes o w b a t q o' W G} (h:NI n goes o w b a t q o' W G):0 ≤ w:=by rw [h.hw]; exact WF_ge h.W0 h.fins
theorem NI.cur {n goes o w b a t q o' W G} (h:NI n goes o w b a t q o' W G):good (G.foldl stepG ([],[],0)).2.1:=good_all h.hg _ (by simp [allG])
theorem NI.fail {n goes o w b a t q o' W G} (h:NI n goes o w b a t q o' W G) {e:Int} (he:0 < e):NI n goes o (failN w e) b a t q o' (failN W e) G:=by
  have e1:failN w e = WF (failN W e) (G.foldl stepG ([],[],0)).1:=by
    rw [← mw_pos he,← mw_pos he,WF_mw h.W0 (by omega) h.fins,← h.hw]
  have:=failN_pos h.w0 he
  have:=failN_pos h.W0 he
  exact ⟨h.g0,h.gG,h.gb,h.hg,e1,by omega,fun h=>by omega,h.ht,h.hq,h.hat,h.l1,h.l2⟩
theorem NI.mono {n m goes o w b a t q o' W G} (h:NI n goes o w b a t q o' W G) (hm:n ≤ m):NI m goes o w b a t q o' W G :=
  ⟨⟨h.g0.1,by have:=h.g0.2; omega⟩,h.gG,h.gb,h.hg,h.hw,h.W0,h.ho,h.ht,h.hq,h.hat,Nat.le_trans h.l1 (Nat.mul_le_mul_right _ hm),Nat.le_trans h.l2 (Nat.mul_le_mul_right _ hm)⟩
end Go.Q
