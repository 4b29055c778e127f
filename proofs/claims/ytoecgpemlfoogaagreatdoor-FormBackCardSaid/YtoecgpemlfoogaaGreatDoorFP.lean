import Derived.Test.YtoecgpemlfoogaaGreatDoorF3
import Derived.Test.YtoecgpemlfoogaaGreatDoorGN11
namespace Go.Q
open Go
def failN (w a:Int):Int:=if w = 0 ∨ a < w then a else w
theorem fail_eq (o:List api.Line) (w:Int) (b:Bool) (l a:Int) (t:ByteArray) (q x:Int):Src.reader.fail o w b l a t q x = some (o,failN w x,b,l,a,t,q):=by
  unfold Src.reader.fail Src.reader.fail.j0 failN
  simp only [letk]
  by_cases h:w = 0
  · rw [if_pos (.inl h),show (w == (0:Int)) = true from beq_iff_eq.2 h]; rfl
  · rw [show (w == (0:Int)) = false from beq_eq_false_iff_ne.2 h]
    by_cases h2:x < w
    · rw [if_pos (.inr h2),decide_eq_true h2]; rfl
    · rw [if_neg (by omega),decide_eq_false h2]; rfl
theorem wrong_eq (o:List api.Line) (l:Int) (t:ByteArray) (a:Int) (b:Bool) (w x:Int):Ref3.reader.wrong o l t a b w x = some (o,l,t,a,b,failN w x):=by
  unfold Ref3.reader.wrong Ref3.reader.wrong.j0 failN
  simp only [letk]
  by_cases h:w = 0
  · rw [if_pos (.inl h),show (w == (0:Int)) = true from beq_iff_eq.2 h]; rfl
  · rw [show (w == (0:Int)) = false from beq_eq_false_iff_ne.2 h]
    by_cases h2:x < w
    · rw [if_pos (.inr h2),decide_eq_true h2]; rfl
    · rw [if_neg (by omega),decide_eq_false h2]; rfl
theorem failN_pos {w a:Int} (h0:0 ≤ w) (ha:0 < a):0 < failN w a:=by unfold failN; split <;> omega
theorem failN_le {w a:Int}:failN w a ≤ a:=by unfold failN; split <;> omega
theorem failN_keep {w a:Int} (h0:0 < w) (h:w ≤ a):failN w a = w:=by unfold failN; rw [if_neg (by omega)]
theorem end_eq (o:List api.Line) (w l a:Int) (x:BS) (q:UInt8) (hx:x.length < 2 ^ 40) (ho:o.length < 2 ^ 40):Src.reader.end_ o w true l a (B x) q.toNat = some (if tr x = [] ∧ l = 0 then (o,w,false,l,a,B x,(q.toNat:Int)) else (o ++ [(⟨l,B (tr x),a⟩:api.Line)],(if (q == 0 && stOK (tr x)) = true then w else failN w a),false,l,a,B x,(q.toNat:Int))):=by
  have htl:=tr_len x
  have j1:∀ w',Src.reader.end_.j1 (B (tr x)) o w' false l a (B x) q.toNat = some (o ++ [(⟨l,B (tr x),a⟩:api.Line)],w',false,l,a,B x,(q.toNat:Int)):=by
    intro w'
    unfold Src.reader.end_.j1
    rw [chk_pos (by simp only [List.length_singleton]; omega)]
    rfl
  have j0:Src.reader.end_.j0 o w l a (B x) q.toNat (B (tr x)) = some (o ++ [(⟨l,B (tr x),a⟩:api.Line)],(if (q == 0 && stOK (tr x)) = true then w else failN w a),false,l,a,B x,(q.toNat:Int)):=by
    unfold Src.reader.end_.j0 Src.reader.end_.j2
    simp only [letk]
    rw [isStatement_eq _ (by omega),fail_eq,bne,show ((q.toNat:Int) == 0) = (q == 0) from beq_u8 q 0 (by omega)]
    simp only [Option.bind_some,j1]
    cases (q == 0) <;> cases stOK (tr x) <;> rfl
  unfold Src.reader.end_
  simp only [letk]
  rw [strim_eq x (by omega)]
  simp only [Option.bind_some]
  rw [eqL,L_B,L_e0,j0]
  by_cases hc:tr x = [] ∧ l = 0
  · rw [if_pos hc,hc.1,hc.2]; rfl
  · rw [if_neg hc]
    by_cases h:tr x = []
    · rw [show (l == (0:Int)) = false from beq_eq_false_iff_ne.2 (fun e=>hc ⟨h,e⟩)]
      cases (tr x == []) <;> rfl
    · rw [show (tr x == []) = false from beq_eq_false_iff_ne.2 h]; rfl
theorem ends_eq (o:List api.Line) (l a w:Int) (x:BS) (hx:x.length < 2 ^ 40) (ho:o.length < 2 ^ 40):Ref3.reader.ends o l (B x) a true w = some (if tr x = [] ∧ l = 0 then (o,l,B (tr x),a,false,w) else if stOK (tr x) = true then (o ++ [(⟨l,B (tr x),a⟩:api.Line)],l,B (tr x),a,false,w) else (o,l,B (tr x),a,false,failN w a)):=by
  have htl:=tr_len x
  have j0:Ref3.reader.ends.j0 o l a w (B (tr x)) false = some (if stOK (tr x) = true then (o ++ [(⟨l,B (tr x),a⟩:api.Line)],l,B (tr x),a,false,w) else (o,l,B (tr x),a,false,failN w a)):=by
    unfold Ref3.reader.ends.j0
    simp only [letk]
    rw [isTextR_eq _ (by omega),wrong_eq,chk_pos (by simp only [List.length_singleton]; omega)]
    simp only [Option.bind_some]
    cases stOK (tr x) <;> rfl
  unfold Ref3.reader.ends
  simp only [letk]
  rw [rtrim_eq x (by omega)]
  simp only [Option.bind_some]
  rw [eqL,L_B,L_e0]
  by_cases hc:tr x = [] ∧ l = 0
  · rw [if_pos hc,hc.1,hc.2]; rfl
  · rw [if_neg hc,← j0]
    by_cases h:tr x = []
    · rw [show (l == (0:Int)) = false from beq_eq_false_iff_ne.2 (fun e=>hc ⟨h,e⟩)]
      cases (tr x == []) <;> rfl
    · rw [show (tr x == []) = false from beq_eq_false_iff_ne.2 h]; rfl
theorem findC_zero (c:UInt8):∀ (l:BS) (i:Nat) (q:UInt8),0 ≤ findC c l i q → ∃ k,findC c l i q = ((i + k:Nat):Int) ∧ k ≤ l.length ∧ (l.take k).foldl nx q = 0
  | [],_,_,h=>absurd h (by show ¬ (0:Int) ≤ -1; decide)
  | x :: r,i,q,h=>by
    unfold findC at h ⊢
    by_cases hc:(x == c && q == 0) = true
    · rw [if_pos hc]
      simp only [Bool.and_eq_true,beq_iff_eq] at hc
      exact ⟨0,rfl,Nat.zero_le _,hc.2⟩
    · rw [if_neg hc] at h ⊢
      obtain ⟨k,h1,h2,h3⟩:=findC_zero c r (i + 1) (nx q x) h
      exact ⟨k + 1,by rw [h1]; congr 1; omega,by rw [List.length_cons]; omega,by rw [List.take_succ_cons,List.foldl_cons]; exact h3⟩
def part (d:BS) (q:UInt8):BS:=if 0 ≤ findC 33 d 0 q then d.take (findC 33 d 0 q).toNat else d ++ List.replicate (66 - d.length) 32
theorem part_fold (d:BS) (q:UInt8) (hq:QS q):(part d q).foldl nx q = if 0 ≤ findC 33 d 0 q then 0 else d.foldl nx q:=by
  unfold part
  split
  · rename_i h
    obtain ⟨k,h1,h2,h3⟩:=findC_zero 33 d 0 q h
    rw [h1,Nat.zero_add,Int.toNat_natCast]; exact h3
  · rw [List.foldl_append]; exact fold_rep (QS_fold _ _ hq) _
theorem repeat_sp:∀ n:Nat,Lib.repeatL [32] n = List.replicate n (32:UInt8):=by
  intro n
  induction n with
  | zero=>rfl
  | succ n ih=>first | (rw [Lib.repeatL,ih]; rfl) | (unfold Lib.repeatL at *; simp_all [List.replicate_succ])
theorem old_j0_eq (d x:BS) (o:List api.Line) (w:Int) (b:Bool) (l a:Int) (hd:d.length < 2 ^ 30) (hx:x.length < 2 ^ 40):Src.reader.old.j0 (B d) o w b l a (B x) ((x.foldl nx 0).toNat:Int) = some (o,w,b,l,a,B (x ++ part d (x.foldl nx 0)),(((x ++ part d (x.foldl nx 0)).foldl nx 0).toNat:Int)):=by
  have hsz:(B d).size = d.length:=rfl
  have hsx:(B x).size = x.length:=rfl
  have hq:QS (x.foldl nx 0):=QS_fold _ _ (.inl rfl)
  rw [List.foldl_append,part_fold d _ hq]
  generalize x.foldl nx 0 = q at *
  unfold Src.reader.old.j0
  rw [show Src.find (B d) ⟨#[33]⟩ (q.toNat:Int) = _ from find_eq d [33] q (by omega)]
  simp only [Option.bind_some,letk]
  obtain ⟨f1,f2,f3⟩:=find_one d 0 q
  unfold part
  by_cases h:0 ≤ findC 33 d 0 q
  · obtain ⟨k,h1,h2,h3⟩:=findC_zero 33 d 0 q h
    rw [if_pos h,if_pos h,f3 h,f1,h1,Nat.zero_add,decide_eq_true (by omega:((k:Nat):Int) ≥ 0),cond_true,chk_pos (by omega),Int.toNat_natCast,ext_B,L_B]
    rw [chk_pos (by have:(B (d.take k)).size = (d.take k).length:=rfl; rw [this,List.length_take]; omega),B_appR]
  · rw [f2 (by omega),f1,if_neg h,if_neg h,decide_eq_false (by omega:¬ findC 33 d 0 q ≥ 0),cond_false,hsz,w64 ⟨by omega,by omega⟩]
    have hr:(if (66:Int) - (d.length:Int) > 0 then (66:Int) - (d.length:Int) else 0) = ((66 - d.length:Nat):Int):=by split <;> omega
    have hs1:(⟨#[32]⟩:ByteArray).size = 1:=rfl
    have hb:∀ n:Nat,(B (List.replicate n (32:UInt8))).size = n:=fun n=>by show (List.replicate n (32:UInt8)).length = n; simp
    rw [hr]
    unfold Strs.Repeat
    rw [Int.toNat_natCast,chk_pos (by rw [hs1]; omega),show L (⟨#[32]⟩:ByteArray) = [32] from rfl,repeat_sp]
    simp only [Option.bind_some]
    have hb2:(B (d ++ List.replicate (66 - d.length) 32)).size = d.length + (66 - d.length):=by show (d ++ List.replicate (66 - d.length) (32:UInt8)).length = _; simp
    rw [chk_pos (by rw [hb]; omega),B_appR,chk_pos (by rw [hb2]; omega),B_appR]
end Go.Q
namespace Go.Q
open Go
abbrev SSt:=List api.Line × Int × Bool × Int × Int × ByteArray × Int
abbrev RSt:=List api.Line × Int × ByteArray × Int × Bool × Int
structure Sim (m n:Nat) (o:List api.Line) (w:Int) (b:Bool) (l a:Int) (t:ByteArray) (q:Int) (o':List api.Line) (l':Int) (t':ByteArray) (a':Int) (b':Bool) (w':Int):Prop where
  hb:b = b'
  hw:w = w'
  h0:0 ≤ w
  ho:o.length ≤ m
  ho':o'.length ≤ m
  same:w = 0 → o = o'
  beg:b = true → ∃ x:BS,x.length ≤ n * 10000 ∧ t = B x ∧ t' = B x ∧ q = ((x.foldl nx 0).toNat:Int) ∧ a = a' ∧ 0 < a ∧ a ≤ n ∧ (l = l' ∨ (0 < w ∧ w ≤ a))
theorem Sim.mono {m n m2 n2:Nat} {o w b l a t q o' l' t' a' b' w'} (h:Sim m n o w b l a t q o' l' t' a' b' w') (hm:m ≤ m2) (hn:n ≤ n2):Sim m2 n2 o w b l a t q o' l' t' a' b' w' :=
  ⟨h.hb,h.hw,h.h0,by have:=h.ho; omega,by have:=h.ho'; omega,h.same,fun hb=>by
    obtain ⟨x,h1,h2,h3,h4,h5,h6,h7,h8⟩:=h.beg hb
    exact ⟨x,Nat.le_trans h1 (Nat.mul_le_mul_right _ hn),h2,h3,h4,h5,h6,by omega,h8⟩⟩
theorem Sim.fail {m n:Nat} {o w b l a t q o' l' t' a' b' w'} (h:Sim m n o w b l a t q o' l' t' a' b' w') (x:Int) (hx:0 < x) (hn:(n:Int) ≤ x):Sim m n o (failN w x) b l a t q o' l' t' a' b' (failN w' x):=by
  have hp:=failN_pos h.h0 hx
  refine ⟨h.hb,by rw [h.hw],by omega,h.ho,h.ho',fun e=>by omega,fun hb=>?_⟩
  obtain ⟨y,h1,h2,h3,h4,h5,h6,h7,h8⟩:=h.beg hb
  refine ⟨y,h1,h2,h3,h4,h5,h6,h7,?_⟩
  rcases h8 with h8 | ⟨h8,h9⟩
  · exact .inl h8
  · exact .inr ⟨hp,by rw [failN_keep h8 (by omega)]; exact h9⟩
theorem Sim.end {m n:Nat} {o w b l a t q o' l' t' a' b' w'} (h:Sim m n o w b l a t q o' l' t' a' b' w') (hm:m < 2 ^ 20) (hn:n < 2 ^ 20):∃ o1 w1 l1 a1 t1 q1 o1' l1' t1' a1' w1',Src.reader.end_ o w b l a t q = some (o1,w1,false,l1,a1,t1,q1) ∧ Ref3.reader.ends o' l' t' a' b' w' = some (o1',l1',t1',a1',false,w1') ∧ Sim (m + 1) n o1 w1 false l1 a1 t1 q1 o1' l1' t1' a1' false w1':=by
  obtain ⟨hb,hw,h0,ho,ho',same,beg⟩:=h
  subst hb; subst hw
  cases b with
  | false=>exact ⟨o,w,l,a,t,q,o',l',t',a',w,rfl,rfl,⟨rfl,rfl,h0,by omega,by omega,same,fun h=>by cases h⟩⟩
  | true =>
    obtain ⟨x,h1,rfl,rfl,rfl,rfl,h6,h7,h8⟩:=beg rfl
    rw [end_eq o w l a x _ (by omega) (by omega),ends_eq o' l' a w x (by omega) (by omega)]
    have hq:((x.foldl nx 0) == 0 && stOK (tr x)) = stOK (tr x):=by
      cases hs:stOK (tr x) with
      | false=>rw [Bool.and_false]
      | true =>
        unfold stOK at hs
        simp only [Bool.and_eq_true] at hs
        rw [fold_tr] at hs
        rw [hs.2.2.2.1]; rfl
    rw [hq]
    have hlen:∀ (oo:List api.Line) (z:api.Line),(oo ++ [z]).length = oo.length + 1:=fun oo z=>by simp
    by_cases hll:l = l'
    · subst hll
      by_cases hc:tr x = [] ∧ l = 0
      · rw [if_pos hc,if_pos hc]
        exact ⟨_,_,_,_,_,_,_,_,_,_,_,rfl,rfl,⟨rfl,rfl,h0,by omega,by omega,same,fun h=>by cases h⟩⟩
      · rw [if_neg hc,if_neg hc]
        by_cases hs:stOK (tr x) = true
        · rw [if_pos hs,if_pos hs]
          exact ⟨_,_,_,_,_,_,_,_,_,_,_,rfl,rfl,⟨rfl,rfl,h0,by rw [hlen]; omega,by rw [hlen]; omega,fun e=>by rw [same e],fun h=>by cases h⟩⟩
        · rw [if_neg hs,if_neg hs]
          have:=failN_pos h0 h6
          exact ⟨_,_,_,_,_,_,_,_,_,_,_,rfl,rfl,⟨rfl,rfl,by omega,by rw [hlen]; omega,by omega,fun e=>by omega,fun h=>by cases h⟩⟩
    · obtain ⟨h9,h10⟩:=h8.resolve_left hll
      have hk:=failN_keep h9 h10
      have hS:∃ o1,o1.length ≤ m + 1 ∧ (some (if tr x = [] ∧ l = 0 then (o,w,false,l,a,B x,((x.foldl nx 0).toNat:Int)) else (o ++ [(⟨l,B (tr x),a⟩:api.Line)],(if stOK (tr x) = true then w else failN w a),false,l,a,B x,((x.foldl nx 0).toNat:Int))):Option SSt) = some (o1,w,false,l,a,B x,((x.foldl nx 0).toNat:Int)):=by
        by_cases hc:tr x = [] ∧ l = 0
        · rw [if_pos hc]; exact ⟨o,by omega,rfl⟩
        · rw [if_neg hc,hk]
          exact ⟨o ++ [⟨l,B (tr x),a⟩],by rw [hlen]; omega,by split <;> rfl⟩
      have hR:∃ o1,o1.length ≤ m + 1 ∧ (some (if tr x = [] ∧ l' = 0 then (o',l',B (tr x),a,false,w) else if stOK (tr x) = true then (o' ++ [(⟨l',B (tr x),a⟩:api.Line)],l',B (tr x),a,false,w) else (o',l',B (tr x),a,false,failN w a)):Option RSt) = some (o1,l',B (tr x),a,false,w):=by
        rw [hk]
        by_cases hc:tr x = [] ∧ l' = 0
        · rw [if_pos hc]; exact ⟨o',by omega,rfl⟩
        · rw [if_neg hc]
          by_cases hs:stOK (tr x) = true
          · rw [if_pos hs]; exact ⟨o' ++ [⟨l',B (tr x),a⟩],by rw [hlen]; omega,rfl⟩
          · rw [if_neg hs]; exact ⟨o',by omega,rfl⟩
      obtain ⟨o1,ho1,e1⟩:=hS
      obtain ⟨o2,ho2,e2⟩:=hR
      exact ⟨o1,w,l,a,_,_,o2,l',_,a,w,e1,e2,⟨rfl,rfl,h0,ho1,ho2,fun e=>by omega,fun h=>by cases h⟩⟩
theorem tr_rep (l:BS) (k:Nat):tr (l ++ List.replicate k 32) = tr l:=by
  rw [← tr_comm,← tr_comm]
  unfold Lib.trimB
  have h:Lib.trimRightB (l ++ List.replicate k 32) 32 = Lib.trimRightB l 32:=by
    unfold Lib.trimRightB
    rw [List.reverse_append,List.reverse_replicate]
    congr 1
    induction k with
    | zero=>rfl
    | succ k ih=>rw [List.replicate_succ,List.cons_append,List.dropWhile_cons,if_pos (by decide)]; exact ih
  first | rw [h] | (unfold Lib.trimLeftB; rw [h])
def pad6 (l:BS):BS:=l ++ List.replicate (6 - l.length) 32
def cont (l:BS):Bool:=!((pad6 l).getD 5 0 == 32) && !((pad6 l).getD 5 0 == 48)
theorem pad6_len (l:BS):(pad6 l).length = max 6 l.length:=by
  unfold pad6
  rw [List.length_append,List.length_replicate]; omega
theorem pad6_take (l:BS):tr ((pad6 l).take 5) = tr (l.take 5):=by
  unfold pad6
  rw [List.take_append,List.take_replicate,tr_rep]
theorem cont_short (l:BS) (h:l.length < 6):cont l = false:=by
  unfold cont pad6
  rw [List.getD_eq_getElem?_getD,List.getElem?_append_right (by omega),List.getElem?_replicate,if_pos (by omega)]
  rfl
theorem pad6_long (l:BS) (h:6 ≤ l.length):pad6 l = l:=by
  unfold pad6
  rw [show 6 - l.length = 0 by omega]; simp
theorem src_body (o:List api.Line) (w:Int) (b:Bool) (l a:Int) (t:ByteArray) (q at1:Int) (s:BS) (hl:s.length < 2 ^ 30):Src.reader.old o w b l a t q at1 (B s) = Src.reader.old.j1 at1 (B (tr (s.take 5))) (B (s.drop 6)) o w b l a t q (cont s):=by
  have hsz:(B s).size = s.length:=rfl
  have htl:(s.take 5).length < 2 ^ 62:=by rw [List.length_take]; omega
  unfold Src.reader.old
  simp only [letk]
  have h5:(if (5:Int) < ((B s).size:Int) then (5:Int) else ((B s).size:Int)) = ((min 5 s.length:Nat):Int):=by rw [hsz]; split <;> omega
  have h6:(if (6:Int) < ((B s).size:Int) then (6:Int) else ((B s).size:Int)) = ((min 6 s.length:Nat):Int):=by rw [hsz]; split <;> omega
  have t5:s.take (min 5 s.length) = s.take 5:=by
    by_cases h:5 ≤ s.length
    · rw [Nat.min_eq_left h]
    · rw [Nat.min_eq_right (by omega),List.take_length,List.take_of_length_le (by omega)]
  have d6:s.drop (min 6 s.length) = s.drop 6:=by
    by_cases h:6 ≤ s.length
    · rw [Nat.min_eq_left h]
    · rw [Nat.min_eq_right (by omega),List.drop_length,List.drop_of_length_le (by omega)]
  rw [h5,h6,chk_pos (by omega),Int.toNat_natCast,ext_B,L_B,t5,strim_eq _ htl]
  simp only [Option.bind_some]
  rw [chk_pos (by omega),Int.toNat_natCast,ext_D,L_B,d6]
  by_cases h:6 ≤ s.length
  · rw [decide_eq_true (by omega:((B s).size:Int) ≥ 6),cond_true,chk_pos (by omega),chk_pos (by omega),show bt (B s) (5:Int) = ((s.getD 5 0).toNat:Int) from rfl,bne,bne,show ∀ x:UInt8,((x.toNat:Int) == 32) = (x == 32) from fun x=>beq_u8 x 32 (by omega),show ∀ x:UInt8,((x.toNat:Int) == 48) = (x == 48) from fun x=>beq_u8 x 48 (by omega)]
    unfold cont
    rw [pad6_long s h]
    cases (s.getD 5 0 == 32) <;> rfl
  · rw [decide_eq_false (by omega:¬ ((B s).size:Int) ≥ 6),cond_false,cont_short s (by omega)]
end Go.Q
namespace Go.Q
open Go
end Go.Q
