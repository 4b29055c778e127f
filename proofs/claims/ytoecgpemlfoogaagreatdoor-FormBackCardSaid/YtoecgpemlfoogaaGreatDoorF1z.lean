import Derived.Test.YtoecgpemlfoogaaGreatDoorGN11
import Derived.Test.YtoecgpemlfoogaaGreatDoorPC
namespace Go.Q
open Go
def nx (q c:UInt8):UInt8:=if (q == 0) = true then (if (c == 39 || c == 34) = true then c else 0) else if (q == c) = true then 0 else q
theorem next_eq (q c:UInt8):Src.quote.next_ q.toNat c.toNat = some ((nx q c).toNat:Int):=by
  unfold Src.quote.next_ nx
  simp only [letk]
  rw [show ((q.toNat:Int) == 0) = (q == 0) from beq_u8 q 0 (by omega),show ((c.toNat:Int) == 39) = (c == 39) from beq_u8 c 39 (by omega),show ((c.toNat:Int) == 34) = (c == 34) from beq_u8 c 34 (by omega)]
  have hj:∀ t,Src.quote.next_.j0 q.toNat c.toNat t = some (if t = true then (c.toNat:Int) else if (q == c) = true then 0 else (q.toNat:Int)):=by
    intro t
    unfold Src.quote.next_.j0
    simp only [letk]
    rw [beq_uu]
    cases t with
    | true=>rfl
    | false=>cases q == c <;> rfl
  rw [hj,hj,hj]
  cases hq:(q == 0) with
  | true =>
    have:q = 0:=beq_iff_eq.1 hq
    subst this
    cases c == 39 with
    | true=>rfl
    | false =>
      cases c == 34 with
      | true=>rfl
      | false=>cases (0:UInt8) == c <;> rfl
  | false=>cases (q == c) <;> rfl
def findL (bs:BS):BS → Nat → UInt8 → Int × UInt8
  | [],_,q=>(-1,q)
  | c :: r,i,q=>if (q == 0 && bs.contains c) = true then ((i:Int),q) else findL bs r (i + 1) (nx q c)
theorem indexByte_eq (bs:BS) (c:UInt8):Strs.IndexByte (B bs) c.toNat = some (Lib.indexByte bs c):=by
  unfold Strs.IndexByte Slite.IndexByte Balg.IndexByteString
  simp only [Option.bind_some]
  rw [show ((c.toNat:Int)).toNat.toUInt8 = c by simp,L_B]
theorem contains_ix (bs:BS) (c:UInt8):decide (Lib.indexByte bs c ≥ 0) = bs.contains c:=(Lib.contains_iff_indexByte bs c).symm
theorem find_l0 (bs l:BS) (hl:l.length < 2 ^ 62):∀ (j n:Nat) (q:UInt8),n + j = l.length → Src.find.l0 (B bs) l.length q.toNat (nI l) n = some ((findL bs (l.drop n) n q).1,((findL bs (l.drop n) n q).2.toNat:Int)):=by
  intro j
  induction j with
  | zero =>
    intro n q hn
    rw [Src.find.l0_eq,Src.find.s0]
    simp only [letk]
    rw [decide_eq_false (by omega:¬ (n:Int) < (l.length:Int)),cond_false,List.drop_of_length_le (by omega)]
    rfl
  | succ j ih =>
    intro n q hn
    have hlt:n < l.length:=by omega
    rw [Src.find.l0_eq,Src.find.s0]
    simp only [letk]
    rw [decide_eq_true (by omega:(n:Int) < (l.length:Int)),cond_true,nI_len,chk_pos (by omega),Nat.zero_add,Int.toNat_natCast,nI_at hlt]
    simp only [Option.bind_some]
    rw [show ((q.toNat:Int) == 0) = (q == 0) from beq_u8 q 0 (by omega),indexByte_eq,next_eq]
    simp only [Option.bind_some]
    rw [contains_ix,List.drop_eq_getElem_cons hlt,w64n (by omega) (by omega),show ((n:Int) + 1) = ((n + 1:Nat):Int) by omega]
    have ih':=ih (n + 1) (nx q l[n]) (by omega)
    unfold findL
    cases q == 0 with
    | false=>simp only [cond_false,Option.bind_some,Sum.elim_inl,Bool.false_and,Bool.false_eq_true,if_false]; exact ih'
    | true =>
      cases bs.contains l[n] with
      | false=>simp only [cond_true,cond_false,Option.bind_some,Sum.elim_inl,Bool.true_and,Bool.false_eq_true,if_false]; exact ih'
      | true=>rfl
theorem find_eq (l bs:BS) (q:UInt8) (hl:l.length < 2 ^ 62):Src.find (B l) (B bs) q.toNat = some ((findL bs l 0 q).1,((findL bs l 0 q).2.toNat:Int)):=by
  unfold Src.find
  simp only [letk]
  rw [bytesI_nI,nI_len]
  exact find_l0 bs l hl l.length 0 q (by omega)
def marksL:BS → UInt8 → BS
  | [],q=>[q]
  | c :: r,q=>q :: marksL r (nx q c)
theorem marksL_at:∀ (l:BS) (q:UInt8) (n:Nat),n ≤ l.length → (marksL l q)[n]? = some ((l.take n).foldl nx q)
  | [],q,n,h=>by
    obtain rfl:n = 0:=by simpa using h
    rfl
  | c :: r,q,0,_=>rfl
  | c :: r,q,n + 1,h=>by
    show (marksL r (nx q c))[n]? = _
    rw [marksL_at r (nx q c) n (by simpa using h)]
    rfl
theorem marks_j0 (l:BS) (q:UInt8) (out:List Int) (n:Nat) (hlt:n < l.length) (hl:l.length < 2 ^ 40) (ho:out.length ≤ l.length + 1) (t:Bool) (ht:t = (q == 0 && (l[n] == 39 || l[n] == 34))) :
    Ref3.marks.j0 (B l) q.toNat out n t = some (.inl (((nx q l[n]).toNat:Int),out ++ [((nx q l[n]).toNat:Int)],((n + 1:Nat):Int))):=by
  have hsz:(B l).size = l.length:=rfl
  have hbt:bt (B l) n = ((l[n].toNat:Nat):Int):=by
    show (((l.getD n 0).toNat:Nat):Int) = _
    rw [List.getD_eq_getElem?_getD,List.getElem?_eq_getElem hlt]; rfl
  unfold Ref3.marks.j0
  simp only [letk]
  rw [chk_pos (by omega),chk_pos (by simp only [List.length_singleton]; omega),chk_pos (by omega),chk_pos (by simp only [List.length_singleton]; omega),chk_pos (by simp only [List.length_singleton]; omega),hbt,w64n (by omega) (by omega),show ((n:Int) + 1) = ((n + 1:Nat):Int) by omega]
  rw [show ((q.toNat:Int) != 0) = !(q == 0) by rw [bne,show ((q.toNat:Int) == 0) = (q == 0) from beq_u8 q 0 (by omega)],beq_uu]
  subst ht
  unfold nx
  cases hq:(q == 0) with
  | true =>
    have:q = 0:=beq_iff_eq.1 hq
    subst this
    cases (l[n] == 39 || l[n] == 34) <;> rfl
  | false =>
    have:(l[n] == q) = (q == l[n]):=by rw [Bool.eq_iff_iff,beq_iff_eq,beq_iff_eq]; exact eq_comm
    rw [this]
    cases (q == l[n]) <;> rfl
theorem marks_l0 (l:BS) (hl:l.length < 2 ^ 40):∀ (j n:Nat) (q:UInt8) (out:List Int),n + j = l.length → out.length ≤ n → Ref3.marks.l0 (B l) q.toNat (out ++ [(q.toNat:Int)]) n = some (out ++ nI (marksL (l.drop n) q)):=by
  have hsz:(B l).size = l.length:=rfl
  intro j
  induction j with
  | zero =>
    intro n q out hn ho
    rw [Ref3.marks.l0_eq,Ref3.marks.s0]
    simp only [letk]
    rw [decide_eq_false (by omega:¬ (n:Int) < ((B l).size:Int)),cond_false,List.drop_of_length_le (by omega)]
    rfl
  | succ j ih =>
    intro n q out hn ho
    have hlt:n < l.length:=by omega
    have hbt:bt (B l) n = ((l[n].toNat:Nat):Int):=by
      show (((l.getD n 0).toNat:Nat):Int) = _
      rw [List.getD_eq_getElem?_getD,List.getElem?_eq_getElem hlt]; rfl
    rw [Ref3.marks.l0_eq,Ref3.marks.s0]
    simp only [letk]
    rw [decide_eq_true (by omega:(n:Int) < ((B l).size:Int)),cond_true,chk_pos (by omega),chk_pos (by omega),hbt]
    rw [show ((q.toNat:Int) == 0) = (q == 0) from beq_u8 q 0 (by omega),show (((l[n].toNat:Nat):Int) == 39) = (l[n] == 39) from beq_u8 _ 39 (by omega),show (((l[n].toNat:Nat):Int) == 34) = (l[n] == 34) from beq_u8 _ 34 (by omega)]
    have ih':=ih (n + 1) (nx q l[n]) (out ++ [(q.toNat:Int)]) (by omega) (by simp only [List.length_append,List.length_singleton]; omega)
    have hj:=fun t ht=>marks_j0 l q (out ++ [(q.toNat:Int)]) n hlt hl (by simp only [List.length_append,List.length_singleton]; omega) t ht
    have key:(bif (q == 0) then bif (l[n] == 39) then Ref3.marks.j0 (B l) q.toNat (out ++ [(q.toNat:Int)]) n true else Ref3.marks.j0 (B l) q.toNat (out ++ [(q.toNat:Int)]) n (l[n] == 34) else Ref3.marks.j0 (B l) q.toNat (out ++ [(q.toNat:Int)]) n false)
        = some (.inl (((nx q l[n]).toNat:Int),(out ++ [(q.toNat:Int)]) ++ [((nx q l[n]).toNat:Int)],((n + 1:Nat):Int))):=by
      cases hq:(q == 0) with
      | false=>exact hj false (by rw [hq]; rfl)
      | true =>
        cases h39:(l[n] == 39) with
        | true=>exact hj true (by rw [hq,h39]; rfl)
        | false=>exact hj _ (by rw [hq,h39]; rfl)
    rw [key]
    simp only [Option.bind_some,Sum.elim_inl]
    rw [ih',List.drop_eq_getElem_cons hlt]
    show _ = some (out ++ nI (q :: marksL (l.drop (n + 1)) (nx q l[n])))
    simp [nI]
theorem marks_eq (l:BS) (q:UInt8) (hl:l.length < 2 ^ 40):Ref3.marks (B l) q.toNat = some (nI (marksL l q)):=by
  unfold Ref3.marks
  have:=marks_l0 l hl l.length 0 q [] (by omega) (Nat.le_refl _)
  exact this
theorem right_l0:∀ r:BS,r.length < 2 ^ 62 → Ref3.right.l0 (B r.reverse) = some (B (r.dropWhile (· == 32)).reverse)
  | [],_=>by
    rw [Ref3.right.l0_eq,Ref3.right.s0]
    rfl
  | c :: r,h=>by
    have ih:=right_l0 r (by simp only [List.length_cons] at h; omega)
    simp only [List.length_cons] at h
    have hsz:(B (c :: r).reverse).size = r.length + 1:=by rw [size_B]; simp
    have hbt:bt (B (c :: r).reverse) r.length = (c.toNat:Int):=by
      show ((((c :: r).reverse.getD r.length 0).toNat:Nat):Int) = _
      rw [List.reverse_cons,List.getD_eq_getElem?_getD,List.getElem?_append_right (by simp)]
      simp
    rw [Ref3.right.l0_eq,Ref3.right.s0]
    simp only [letk]
    rw [hsz,decide_eq_true (by omega:((r.length + 1:Nat):Int) > 0),cond_true,w64n (by omega) (by omega),chk_pos (by omega),show (((r.length + 1:Nat):Int) - 1) = (r.length:Int) by omega,hbt,show ((c.toNat:Int) == 32) = (c == 32) from beq_u8 c 32 (by omega)]
    rw [List.dropWhile_cons]
    cases hc:(c == 32) with
    | true =>
      simp only [cond_true,if_true]
      unfold Ref3.right.j0
      simp only [letk]
      rw [hsz,w64n (by omega) (by omega),show (((r.length + 1:Nat):Int) - 1) = (r.length:Int) by omega,chk_pos (by omega)]
      simp only [Option.bind_some,Sum.elim_inl]
      rw [Int.toNat_natCast,ext_B,L_B,List.reverse_cons,List.take_append_of_le_length (by simp),List.take_of_length_le (by simp)]
      exact ih
    | false=>rfl
theorem right_eq (l:BS) (h:l.length < 2 ^ 62):Ref3.right (B l) = some (B (Lib.trimRightB l 32)):=by
  have:=right_l0 l.reverse (by simpa using h)
  rw [List.reverse_reverse] at this
  exact this
theorem trim_l0:∀ l:BS,l.length < 2 ^ 62 → Ref3.trim.l0 (B l) = some (B (Lib.trimRightB (l.dropWhile (· == 32)) 32))
  | [],h=>by
    rw [Ref3.trim.l0_eq,Ref3.trim.s0]
    simp only [letk]
    rw [show decide ((((B []).size:Nat):Int) > 0) = false from rfl,cond_false,right_eq [] h]
    rfl
  | c :: r,h=>by
    have ih:=trim_l0 r (by simp only [List.length_cons] at h; omega)
    have hr:=right_eq (c :: r) h
    simp only [List.length_cons] at h
    have hsz:(B (c :: r)).size = r.length + 1:=rfl
    rw [Ref3.trim.l0_eq,Ref3.trim.s0]
    simp only [letk]
    rw [hsz,decide_eq_true (by omega:((r.length + 1:Nat):Int) > 0),cond_true,chk_pos (by omega),show bt (B (c :: r)) 0 = (c.toNat:Int) from rfl,show ((c.toNat:Int) == 32) = (c == 32) from beq_u8 c 32 (by omega),chk_pos (by omega),List.dropWhile_cons,hr]
    cases hc:(c == 32) with
    | true =>
      simp only [cond_true,if_true,Option.bind_some,Sum.elim_inl]
      rw [← hsz,show (1:Int).toNat = 1 from rfl,ext_D,L_B]
      exact ih
    | false=>rfl
theorem trim_eq (l:BS) (h:l.length < 2 ^ 62):Ref3.trim (B l) = some (B (Lib.trimRightB (l.dropWhile (· == 32)) 32)):=trim_l0 l h
theorem trimR_cons {c:UInt8} (hc:(c == 32) = false) (r:BS):∃ r',Lib.trimRightB (c :: r) 32 = c :: r':=by
  unfold Lib.trimRightB
  rw [List.reverse_cons,List.dropWhile_append]
  split
  · exact ⟨[],by rw [List.dropWhile_cons,hc]; simp⟩
  · exact ⟨(r.reverse.dropWhile (· == 32)).reverse,by simp⟩
theorem drop_cases (l:BS):l.dropWhile (· == 32) = [] ∨ ∃ c r,l.dropWhile (· == 32) = c :: r ∧ (c == 32) = false:=by
  induction l with
  | nil=>exact .inl rfl
  | cons c r ih =>
    rw [List.dropWhile_cons]
    cases hc:(c == 32) with
    | true=>simpa using ih
    | false=>exact .inr ⟨c,r,by simp,hc⟩
theorem comment_eq (l:BS) (old:Bool) (h:l.length < 2 ^ 40):∃ b,Src.Comment (B l) old = some b ∧ Ref3.Comment (B l) old = some b:=by
  have hsz:(B l).size = l.length:=rfl
  unfold Src.Comment Ref3.Comment
  rw [trim_eq l (by omega)]
  unfold Strs.TrimLeft
  rw [chk_pos rfl,L_B]
  simp only [Option.bind_some,letk]
  rw [eqL,eqL,L_B,L_B,L_e0]
  show ∃ b,(bif old then bif (l.dropWhile (· == 32) == []) then _ else _ else bif (l.dropWhile (· == 32) == []) then _ else _) = some b ∧ _
  rcases drop_cases l with hd | ⟨c,r,hd,hc⟩
  · rw [hd]
    cases old <;> exact ⟨true,rfl,rfl⟩
  · have hl0:0 < l.length:=by
      cases l with
      | nil=>simp at hd
      | cons=>simp
    obtain ⟨r',hr'⟩:=trimR_cons hc r
    rw [hd,hr',show ((c :: r:BS) == []) = false from rfl,show ((c :: r':BS) == []) = false from rfl,cond_false,cond_false,cond_false]
    have hbt:∀ x:BS,bt (B x) 0 = ((x.getD 0 0).toNat:Int):=fun _=>rfl
    cases old with
    | false =>
      simp only [cond_false]
      have hs1:(B (c :: r)).size = r.length + 1:=rfl
      have hs2:(B (c :: r')).size = r'.length + 1:=rfl
      rw [show (B (Lib.trimLeftB l 32)) = B (c :: r) from congrArg B hd]
      rw [chk_pos (by omega),chk_pos (by omega)]
      exact ⟨_,rfl,rfl⟩
    | true =>
      simp only [cond_true]
      rw [chk_pos (by omega),chk_pos (by omega),hbt]
      rw [show Strs.IndexByte ⟨#[67,99,42,33]⟩ ((l.getD 0 0).toNat:Int) = _ from indexByte_eq [67,99,42,33] _]
      simp only [Option.bind_some]
      rw [contains_ix]
      generalize l.getD 0 0 = x
      rw [show ((x.toNat:Int) == 67) = (x == 67) from beq_u8 x 67 (by omega),show ((x.toNat:Int) == 99) = (x == 99) from beq_u8 x 99 (by omega),show ((x.toNat:Int) == 42) = (x == 42) from beq_u8 x 42 (by omega),show ((x.toNat:Int) == 33) = (x == 33) from beq_u8 x 33 (by omega)]
      refine ⟨_,rfl,?_⟩
      simp only [List.contains,List.elem]
      cases x == 67 <;> cases x == 99 <;> cases x == 42 <;> cases x == 33 <;> rfl
end Go.Q
