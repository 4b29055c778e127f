import Derived.Test.YtoecgpemlfoogaaGreatDoorFW4
namespace Go.Q
open Go
set_option maxRecDepth 100000
set_option maxHeartbeats 4000000
theorem bT {ρ:Type} {A B r:Option ρ} (h:A = r):(bif true then A else B) = r:=h
theorem bF {ρ:Type} {A B r:Option ρ} (h:B = r):(bif false then A else B) = r:=h
theorem full_end {x:api.Line} (h:okLine x = true):Lib.trimRightB (full x) 32 = full x ∧ amp (full x) = false:=by
  have S:=full_st h
  unfold full
  rw [trimR_app,S.trR.1,if_neg S.ne,amp_app _ _ S.ne]
  exact ⟨rfl,S.na⟩
theorem cut_quiet {s:BS} {q:UInt8} (h:quiet s q):cutR s q = s:=by
  have:=cutR_quiet s [] q h
  rw [List.append_nil] at this
  rw [this]; exact List.append_nil _
theorem zOf_goes {X:BS} {q:UInt8} (h:quiet X q):zOf (X ++ [38]) q = (X,true):=by
  have hq:quiet (X ++ [38]) q:=(quiet_app X [38] q).2 ⟨h,fun e=>by rcases e.1 with e | e <;> exact absurd e (by decide),trivial⟩
  have ht:Lib.trimRightB (X ++ [38]) 32 = X ++ [38]:=by rw [trimR_app,show Lib.trimRightB [38] 32 = [38] from rfl,if_neg (by simp)]
  unfold zOf
  rw [cut_quiet hq,ht,amp_app _ _ (by simp),if_pos (show amp [38] = true from rfl)]
  rw [List.length_append,show X.length + [(38:UInt8)].length - 1 = X.length by simp,List.take_left]
theorem zOf_ends {s:BS} {q:UInt8} (h:quiet s q) (ht:Lib.trimRightB s 32 = s) (ha:amp s = false):zOf s q = (s,false):=by
  unfold zOf
  rw [cut_quiet h,ht,ha,if_neg (by decide)]
theorem fresh_goes {at':Int} (hat:0 < at') {X:BS} (hX:X.length < 2 ^ 30) {c:List PL} (hc:good c) (hcl:c.length < 2 ^ 30) {o:List api.Line} (ho:o.length < 2 ^ 30) {b:Bool} {l a:Int} (ha:AT c a) (hq:quiet X ((bys c).foldl nx 0)) :
    ∃ l2 a2,Src.reader.fresh o 0 b l a (B (bys c)) (((bys c).foldl nx 0).toNat:Int) at' (B (X ++ [38])) = some (o,0,true,l2,a2,B (bys (c ++ tag at' X)),(((bys (c ++ tag at' X)).foldl nx 0).toNat:Int),true) ∧ AT (c ++ tag at' X) a2:=by
  have hl:(X ++ [38]).length = X.length + 1:=by simp
  obtain ⟨o2,l2,a2,f1,_⟩:=(fresh_l0 at' hat _ (X ++ [38]) (Nat.le_refl _) (by omega) o 0 b l a c hc (by omega) (by omega) (Int.le_refl _) ha).ok
  rw [zOf_goes hq] at f1
  simp only [step_quiet at' X [] c _ hq] at f1
  rcases f1 with ⟨_,g2,g3,g4,g5⟩ | ⟨g1,_⟩
  · have e0:o2 = o:=by rw [g3 rfl]; exact List.append_nil _
    rw [e0] at g2
    refine ⟨l2,a2,?_,g4⟩
    rw [← g5]
    exact g2
  · cases g1
theorem fresh_ends {at':Int} (hat:0 < at') {s:BS} (hs:s.length < 2 ^ 30) {c:List PL} (hc:good c) (hcl:c.length < 2 ^ 30) {o:List api.Line} (ho:o.length < 2 ^ 30) {b:Bool} {l a:Int} (ha:AT c a) (hq:quiet s ((bys c).foldl nx 0))
    (ht:Lib.trimRightB s 32 = s) (hm:amp s = false) (hp:pE (c ++ tag at' s) = 0) :
    Src.reader.fresh o 0 b l a (B (bys c)) (((bys c).foldl nx 0).toNat:Int) at' (B s) = some (o ++ pL (c ++ tag at' s),0,false,0,0,⟨#[]⟩,0,false):=by
  obtain ⟨o2,l2,a2,f1,_⟩:=(fresh_l0 at' hat _ s (Nat.le_refl _) (by omega) o 0 b l a c hc (by omega) (by omega) (Int.le_refl _) ha).ok
  rw [zOf_ends hq ht hm] at f1
  simp only [step_quiet at' s [] c _ hq] at f1
  have hall:allG (([]:List (List PL)),c ++ tag at' s,s.foldl nx ((bys c).foldl nx 0)) = [c ++ tag at' s]:=rfl
  have hw:WF 0 [c ++ tag at' s] = 0:=by show mw 0 (pE (c ++ tag at' s)) = 0; rw [hp]; rfl
  rw [hall,hw,LF_one] at f1
  rcases f1 with ⟨g1,_⟩ | ⟨_,g2,g3⟩
  · cases g1
  · rw [g3 rfl] at g2
    exact g2
theorem new_front (T:ByteArray) (LL:List ByteArray) (o:List api.Line) (b:Bool) (l a:Int) (t:ByteArray) (q goes:Int) (n:Nat) (p s:BS) (hn:n < LL.length) (hg:LL[n]? = some (B (p ++ s)))
    (hok:(p ++ s).all okB = true) (hl:(p ++ s).length ≤ 132) (hp:p = [] ∧ goes = 0 ∨ p = [38] ∧ 0 < goes) :
    Src.New.s0 T LL (LL.length:Int) o 0 b l a t q goes (n:Int) = Src.New.j1 T LL (LL.length:Int) (n:Int) o 0 b l a t q (B s):=by
  have hit:Src.isText (B (p ++ s)) = some true:=by rw [isText_eq _ (by omega),hok]
  unfold Src.New.s0
  refine letT (decide_eq_true (by omega)) (chkE (by omega) (bindE (by rw [Int.toNat_natCast]; exact hg) (bindE hit (letV (y:=false) rfl (letV rfl (letV (y:=false) (decide_eq_false (by rw [size_B]; omega)) ?_))))))
  show Src.New.j4 T LL (LL.length:Int) goes (n:Int) (B (p ++ s)) o 0 b l a t q false = _
  unfold Src.New.j4
  show Src.New.j0 T LL (LL.length:Int) goes (n:Int) (B (p ++ s)) o 0 b l a t q = _
  unfold Src.New.j0
  rcases hp with ⟨rfl,rfl⟩ | ⟨rfl,hgo⟩
  · exact letF (decide_eq_false (by omega)) rfl
  · have hj2:Src.New.j2 T LL (LL.length:Int) (n:Int) (B ([38] ++ s)) o 0 b l a t q = Src.New.j1 T LL (LL.length:Int) (n:Int) o 0 b l a t q (B s):=by
      unfold Src.New.j2
      refine bindE (a:=B (38 :: s)) (by unfold Strs.TrimLeft; rw [chk_pos rfl,L_B]; rfl) ?_
      have hcp:=cutpre_eq (38 :: s) (by simp only [List.length_append,List.length_cons,List.length_nil] at hl ⊢; omega)
      rw [if_pos (show ((38 :: s).getD 0 0 == 38) = true from rfl)] at hcp
      refine bindE hcp (letV (y:=false) rfl ?_)
      show Src.New.j3 T LL (LL.length:Int) (n:Int) o 0 l a t q (B s) b true false = _
      unfold Src.New.j3
      exact bF (letV (y:=false) rfl rfl)
    refine letT (decide_eq_true (by omega)) ?_
    cases hq0:(q == (0:Int)) with
    | false=>exact letV rfl hj2
    | true =>
      refine letV (y:=true) rfl ?_
      have hcm:=(comment_new ([38] ++ s) (by omega)).1
      exact bindE (hcm.trans rfl) hj2
theorem dropHd {α:Type} {ls:List α} {n:Nat} {y:α} {more:List α} (h:ls.drop n = y :: more):n < ls.length ∧ ls[n]? = some y ∧ ls.drop (n + 1) = more:=by
  have h1:n < ls.length:=by
    have:=congrArg List.length h
    rw [List.length_drop,List.length_cons] at this
    omega
  rw [List.drop_eq_getElem_cons h1] at h
  have h2:=List.cons.inj h
  exact ⟨h1,by rw [List.getElem?_eq_getElem h1,h2.1],h2.2⟩
theorem new_segs (T:ByteArray) (ls:List BS) (hls:ls.length < 2 ^ 14) {x:api.Line} (hx:okLine x = true) (o:List api.Line) (ho:o.length < 2 ^ 20) (more:List BS):∀ (k:Nat) (s p:BS) (c:List PL) (n:Nat) (goes:Int) (b:Bool) (l a:Int),s.length ≤ k → s ≠ [] →
    (p = [] ∧ goes = 0 ∨ p = [38] ∧ 0 < goes) → ls.drop n = segs 100 [38] [38] p s ++ more → good c → AT c a → bys c ++ s = full x →
    ∃ a',Src.New.l0 T (ls.map B) ((ls.map B).length:Int) o 0 b l a (B (bys c)) (((bys c).foldl nx 0).toNat:Int) goes (n:Int) =
      Src.New.l0 T (ls.map B) ((ls.map B).length:Int) (o ++ [⟨x.Label,x.Text,a'⟩]) 0 false 0 0 ⟨#[]⟩ 0 0 ((n + (segs 100 [38] [38] p s).length:Nat):Int)
  | k,s,p,c,n,goes,b,l,a,hk,hne,hp,hd,hc,ha,hf=>by
    have F:=full_ok hx
    obtain ⟨E1,E2⟩:=full_end hx
    have hml:(ls.map B).length = ls.length:=List.length_map _
    have hlen:(bys c).length + s.length ≤ 8100:=by have:=F.len; rw [← hf,List.length_append] at this; exact this
    rw [bys_len] at hlen
    have hqs:quiet s ((bys c).foldl nx 0):=by have:=F.qt; rw [← hf,quiet_app] at this; exact this.2
    have hoks:s.all okB = true:=by have:=F.ok; rw [← hf,List.all_append,Bool.and_eq_true] at this; exact this.2
    have hpl:p.length ≤ 1:=by rcases hp with ⟨rfl,_⟩ | ⟨rfl,_⟩ <;> decide
    have hpok:p.all okB = true:=by rcases hp with ⟨rfl,_⟩ | ⟨rfl,_⟩ <;> decide
    have hat:(0:Int) < ((n + 1:Nat):Int):=by omega
    by_cases h:100 < s.length
    · match k,hk with
      | 0,hk=>omega
      | k + 1,hk =>
        rw [segs_go (by decide) h,List.cons_append] at hd
        obtain ⟨hn,hget,hmore⟩:=dropHd hd
        have hw1:IntKind.i64.wrap ((n:Int) + 1) = ((n + 1:Nat):Int):=by rw [w64n (by omega) (by omega)]; rfl
        have htl:(s.take 100).length = 100:=by rw [List.length_take]; omega
        have hqt:quiet (s.take 100) ((bys c).foldl nx 0):=quiet_take s 100 _ hqs
        obtain ⟨l2,a2,hfr,ha2⟩:=fresh_goes hat (X:=s.take 100) (by omega) hc (by omega) (o:=o) (by omega) (b:=b) (l:=l) (a:=a) ha hqt
        have hdn:s.drop 100 ≠ []:=by
          intro e
          have:=congrArg List.length e
          rw [List.length_drop,List.length_nil] at this
          omega
        have hbc:bys (c ++ tag ((n + 1:Nat):Int) (s.take 100)) ++ s.drop 100 = full x:=by
          rw [bys_app,bys_tag,List.append_assoc,List.take_append_drop,hf]
        obtain ⟨a',ih⟩:=new_segs T ls hls hx o ho more k (s.drop 100) [38] (c ++ tag ((n + 1:Nat):Int) (s.take 100)) (n + 1) ((n + 1:Nat):Int) true l2 a2 (by rw [List.length_drop]; omega) hdn (.inr ⟨rfl,hat⟩) hmore (good_app hc (good_tag hat _)) ha2 hbc
        refine ⟨a',?_⟩
        rw [segs_go (by decide) h,List.length_cons,show n + ((segs 100 [38] [38] [38] (s.drop 100)).length + 1) = n + 1 + (segs 100 [38] [38] [38] (s.drop 100)).length by omega,← ih]
        unfold Src.New.l0
        refine loopO_next (t:=(o,0,true,l2,a2,B (bys (c ++ tag ((n + 1:Nat):Int) (s.take 100))),(((bys (c ++ tag ((n + 1:Nat):Int) (s.take 100))).foldl nx 0).toNat:Int),((n + 1:Nat):Int),((n + 1:Nat):Int))) ?_ rfl
        show Src.New.s0 T (ls.map B) ((ls.map B).length:Int) o 0 b l a (B (bys c)) (((bys c).foldl nx 0).toNat:Int) goes (n:Int) = _
        rw [new_front T (ls.map B) o b l a _ _ goes n p (s.take 100 ++ [38]) (by omega) (by rw [List.getElem?_map,hget,← List.append_assoc]; rfl)
          (by rw [List.all_append,List.all_append,hpok,okB_take 100 hoks]; rfl) (by simp only [List.length_append,List.length_cons,List.length_nil]; omega) hp]
        unfold Src.New.j1
        exact letV hw1 (bindE hfr (bT (letV hw1 (letV hw1 rfl))))
    · rw [segs_end h,List.singleton_append] at hd
      obtain ⟨hn,hget,hmore⟩:=dropHd hd
      have hw1:IntKind.i64.wrap ((n:Int) + 1) = ((n + 1:Nat):Int):=by rw [w64n (by omega) (by omega)]; rfl
      have hE1:Lib.trimRightB s 32 = s:=by
        have:=E1
        rw [← hf,trimR_app] at this
        by_cases h0:Lib.trimRightB s 32 = []
        · rw [if_pos h0] at this
          have h1:=trimR_len (bys c)
          rw [this,List.length_append] at h1
          have:=List.length_pos_iff.2 hne
          omega
        · rw [if_neg h0] at this
          exact List.append_cancel_left this
      have hE2:amp s = false:=by
        have:=E2
        rwa [← hf,amp_app _ _ hne] at this
      have hbc:bys (c ++ tag ((n + 1:Nat):Int) s) = full x:=by rw [bys_app,bys_tag,hf]
      have hfr:=fresh_ends hat (s:=s) (by omega) hc (by omega) (o:=o) (by omega) (b:=b) (l:=l) (a:=a) ha hqs hE1 hE2 (by unfold pE; rw [hbc]; exact F.pe _)
      have hpL:pL (c ++ tag ((n + 1:Nat):Int) s) = [⟨x.Label,x.Text,atP (c ++ tag ((n + 1:Nat):Int) s)⟩]:=by unfold pL; rw [hbc]; exact F.pl _
      rw [hpL] at hfr
      refine ⟨atP (c ++ tag ((n + 1:Nat):Int) s),?_⟩
      rw [segs_end h,show n + [p ++ s].length = n + 1 from rfl]
      unfold Src.New.l0
      refine loopO_next (t:=(o ++ [⟨x.Label,x.Text,atP (c ++ tag ((n + 1:Nat):Int) s)⟩],0,false,0,0,⟨#[]⟩,0,0,((n + 1:Nat):Int))) ?_ rfl
      show Src.New.s0 T (ls.map B) ((ls.map B).length:Int) o 0 b l a (B (bys c)) (((bys c).foldl nx 0).toNat:Int) goes (n:Int) = _
      rw [new_front T (ls.map B) o b l a _ _ goes n p s (by omega) (by rw [List.getElem?_map,hget]; rfl)
          (by rw [List.all_append,hpok,hoks]; rfl) (by rw [List.length_append]; omega) hp]
      unfold Src.New.j1
      exact letV hw1 (bindE hfr (bF (letV hw1 rfl)))
def Same (l v:List api.Line):Prop:=v.map (fun x=>(x.Label,x.Text)) = l.map (fun x=>(x.Label,x.Text))
def segsN (x:api.Line):List BS:=segs 100 [38] [38] [] (full x)
theorem full_ne {x:api.Line} (h:okLine x = true):full x ≠ []:=by
  unfold full
  intro e
  exact (full_st h).ne (List.append_eq_nil_iff.1 e).2
theorem lines_flatN:∀ (l:List api.Line),(∀ x ∈ l,okLine x = true) → linesL (flatW rowN l) [] = l.flatMap segsN
  | [],_=>rfl
  | x :: l,h=>by
    have ih:=lines_flatN l (fun y hy=>h y (List.mem_cons_of_mem _ hy))
    have hx:=h x (List.mem_cons_self ..)
    rw [flatW_cons,List.flatMap_cons,← ih]
    exact lines_cut (n:=100) (e:=[38]) (b:=[38]) (by decide) rfl rfl _ (full x) [] (flatW rowN l) (Nat.le_refl _) (full_ok hx).ok rfl
theorem new_all (T:ByteArray) (hT:T.size ≤ 8000) (ls:List BS) (hls:ls.length < 2 ^ 14):∀ (l:List api.Line) (o:List api.Line) (n:Nat),(∀ x ∈ l,okLine x = true) → o.length + l.length ≤ 200 → ls.drop n = l.flatMap segsN →
    ∃ v,Same l v ∧ Src.New.l0 T (ls.map B) ((ls.map B).length:Int) o 0 false 0 0 ⟨#[]⟩ 0 0 (n:Int) = some (o ++ v,0,0)
  | [],o,n,_,ho,hd=>by
    refine ⟨[],rfl,?_⟩
    have hn:ls.length ≤ n:=List.drop_eq_nil_iff.1 hd
    have hml:(ls.map B).length = ls.length:=List.length_map _
    rw [List.append_nil]
    unfold Src.New.l0
    refine loopO_end ?_
    show Src.New.s0 T (ls.map B) ((ls.map B).length:Int) o 0 false 0 0 ⟨#[]⟩ 0 0 (n:Int) = _
    unfold Src.New.s0
    have hans:Src.reader.answer o 0 false 0 0 ⟨#[]⟩ 0 T = some (o,0,0):=by
      unfold Src.reader.answer
      rw [List.length_nil] at ho
      exact letF (decide_eq_false (by decide)) (letV rfl (letF (decide_eq_false (by omega)) (letV rfl (letF (decide_eq_false (by omega)) rfl))))
    exact letF (decide_eq_false (by omega)) (mapE (letF (decide_eq_false (by decide)) (bindE hans rfl)))
  | x :: l,o,n,h,ho,hd=>by
    have hx:=h x (List.mem_cons_self ..)
    rw [List.length_cons] at ho
    rw [List.flatMap_cons] at hd
    obtain ⟨a',e⟩:=new_segs T ls hls hx o (by omega) (l.flatMap segsN) _ (full x) [] [] n 0 false 0 0 (Nat.le_refl _) (full_ne hx) (.inl ⟨rfl,rfl⟩) hd (fun p hp=>by cases hp) (fun h=>absurd rfl h) rfl
    have hd2:ls.drop (n + (segsN x).length) = l.flatMap segsN:=by
      rw [← List.drop_drop,hd,List.drop_left]
    obtain ⟨v,h1,h2⟩:=new_all T hT ls hls l (o ++ [⟨x.Label,x.Text,a'⟩]) (n + (segsN x).length) (fun y hy=>h y (List.mem_cons_of_mem _ hy)) (by simp only [List.length_append,List.length_cons,List.length_nil]; omega) hd2
    refine ⟨⟨x.Label,x.Text,a'⟩ :: v,?_,?_⟩
    · unfold Same at h1 ⊢
      rw [List.map_cons,List.map_cons,h1]
    · refine e.trans (h2.trans ?_)
      rw [List.append_assoc]; rfl
theorem new_back (l:List api.Line) (hok:∀ x ∈ l,okLine x = true) (hl:l.length ≤ 200) (ht:(flatW rowN l).length ≤ 8000):∃ v,Same l v ∧ Src.New (B (flatW rowN l)) = some (v,0,0):=by
  have hln:=(linesL_len (flatW rowN l) []).1
  rw [List.length_nil,Nat.add_zero] at hln
  obtain ⟨v,h1,h2⟩:=new_all (B (flatW rowN l)) (by rw [size_B]; exact ht) (linesL (flatW rowN l) []) (by omega) l [] 0 hok (by rw [List.length_nil]; omega) (lines_flatN l hok)
  refine ⟨v,h1,?_⟩
  unfold Src.New
  exact bindE (lines_eq _ (by omega)) (letV rfl h2)
end Go.Q
