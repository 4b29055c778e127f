import Derived.Test.YtoecgpemlfoogaaGreatDoorF1z
namespace Go.Q
open Go
def okB (c:UInt8):Bool:=!(decide ((c.toNat:Int) < 32)) && !(decide ((c.toNat:Int) > 126))
theorem isText_l0 (l:BS) (hl:l.length < 2 ^ 62):∀ j n:Nat,n + j = l.length → Src.isText.l0 (nI l) l.length n = some ((l.drop n).all okB):=by
  intro j
  induction j with
  | zero =>
    intro n hn
    rw [Src.isText.l0_eq,Src.isText.s0]
    simp only [letk]
    rw [decide_eq_false (by omega:¬ (n:Int) < (l.length:Int)),cond_false,List.drop_of_length_le (by omega)]
    rfl
  | succ j ih =>
    intro n hn
    have hlt:n < l.length:=by omega
    rw [Src.isText.l0_eq,Src.isText.s0]
    simp only [letk]
    rw [decide_eq_true (by omega:(n:Int) < (l.length:Int)),cond_true,nI_len,chk_pos (by omega),Nat.zero_add,Int.toNat_natCast,nI_at hlt]
    simp only [Option.bind_some]
    rw [List.drop_eq_getElem_cons hlt,List.all_cons,w64n (by omega) (by omega),show ((n:Int) + 1) = ((n + 1:Nat):Int) by omega]
    have ih':=ih (n + 1) (by omega)
    unfold okB
    cases decide (((l[n].toNat:Nat):Int) < 32) with
    | true=>rfl
    | false =>
      cases decide (((l[n].toNat:Nat):Int) > 126) with
      | true=>rfl
      | false=>simp only [cond_false,Option.bind_some,Sum.elim_inl,Bool.not_false,Bool.true_and]; exact ih'
theorem isText_eq (l:BS) (hl:l.length < 2 ^ 62):Src.isText (B l) = some (l.all okB):=by
  unfold Src.isText
  simp only [letk]
  rw [bytesI_nI,nI_len]
  exact isText_l0 l hl l.length 0 (by omega)
theorem bt_at {l:BS} {n:Nat} (h:n < l.length):bt (B l) n = ((l[n].toNat:Nat):Int):=by
  show (((l.getD n 0).toNat:Nat):Int) = _
  rw [List.getD_eq_getElem?_getD,List.getElem?_eq_getElem h]; rfl
theorem trimR_ne {c:UInt8} (hc:(c == 32) = false) (r:BS):Lib.trimRightB (c :: r) 32 = c :: Lib.trimRightB r 32:=by
  unfold Lib.trimRightB
  rw [List.reverse_cons,List.dropWhile_append]
  split
  · rename_i h
    rw [List.isEmpty_iff.1 h,List.dropWhile_cons,hc]; simp
  · simp
theorem trimR_sp (r:BS):Lib.trimRightB (32 :: r) 32 = if Lib.trimRightB r 32 = [] then [] else 32 :: Lib.trimRightB r 32:=by
  unfold Lib.trimRightB
  rw [List.reverse_cons,List.dropWhile_append]
  split
  · rename_i h
    rw [List.isEmpty_iff.1 h]; simp
  · rename_i h
    rw [if_neg (by intro e; apply h; rw [List.isEmpty_iff]; simpa using e)]
    simp
def tr (l:BS):BS:=Lib.trimRightB (l.dropWhile (· == 32)) 32
theorem tr_comm:∀ l:BS,Lib.trimB l 32 = tr l
  | []=>rfl
  | c :: r=>by
    have ih:=tr_comm r
    unfold Lib.trimB Lib.trimLeftB tr at *
    cases hc:(c == 32) with
    | true =>
      have:c = 32:=beq_iff_eq.1 hc
      subst this
      rw [trimR_sp,List.dropWhile_cons]
      simp only [hc,if_true]
      split
      · rename_i h
        rw [h] at ih
        exact ih
      · rw [List.dropWhile_cons]
        simp only [hc,if_true]
        exact ih
    | false =>
      rw [trimR_ne hc,List.dropWhile_cons,List.dropWhile_cons]
      simp only [hc,Bool.false_eq_true,if_false]
      rw [trimR_ne hc]
theorem strim_eq (l:BS) (h:l.length < 2 ^ 62):Strs.Trim (B l) ⟨#[32]⟩ = some (B (tr l)):=by
  unfold Strs.Trim
  rw [chk_pos ⟨by rw [size_B]; omega,rfl⟩,L_B,tr_comm]
theorem rtrim_eq (l:BS) (h:l.length < 2 ^ 62):Ref3.trim (B l) = some (B (tr l)):=trim_eq l h
theorem trimR_rep:∀ l:BS,∃ k,l = Lib.trimRightB l 32 ++ List.replicate k 32
  | []=>⟨0,rfl⟩
  | c :: r=>by
    obtain ⟨k,hk⟩:=trimR_rep r
    cases hc:(c == 32) with
    | true =>
      have:c = 32:=beq_iff_eq.1 hc
      subst this
      rw [trimR_sp]
      split
      · rename_i h
        rw [h,List.nil_append] at hk
        exact ⟨k + 1,by rw [List.replicate_succ,← hk]; rfl⟩
      · exact ⟨k,by rw [List.cons_append,← hk]⟩
    | false=>exact ⟨k,by rw [trimR_ne hc,List.cons_append,← hk]⟩
theorem trimR_len (l:BS):(Lib.trimRightB l 32).length ≤ l.length:=by
  obtain ⟨k,hk⟩:=trimR_rep l
  have:=congrArg List.length hk
  rw [List.length_append] at this
  omega
theorem tr_len (l:BS):(tr l).length ≤ l.length:=by
  have h1:=trimR_len (l.dropWhile (· == 32))
  have h2:=(List.dropWhile_sublist (· == 32) (l:=l)).length_le
  unfold tr; omega
def QS (q:UInt8):Prop:=q = 0 ∨ q = 39 ∨ q = 34
theorem QS_nx {q c:UInt8} (h:QS q):QS (nx q c):=by
  unfold nx
  split
  · split
    · rename_i h2
      simp only [Bool.or_eq_true,beq_iff_eq] at h2
      exact .inr h2
    · exact .inl rfl
  · split
    · exact .inl rfl
    · exact h
theorem nx_sp {q:UInt8} (h:QS q):nx q 32 = q:=by rcases h with rfl | rfl | rfl <;> rfl
theorem QS_fold:∀ (l:BS) (q:UInt8),QS q → QS (l.foldl nx q)
  | [],_,h=>h
  | _ :: r,_,h=>QS_fold r _ (QS_nx h)
theorem fold_rep {q:UInt8} (h:QS q):∀ k,(List.replicate k (32:UInt8)).foldl nx q = q
  | 0=>rfl
  | k + 1=>by rw [List.replicate_succ,List.foldl_cons,nx_sp h]; exact fold_rep h k
theorem fold_drop:∀ l:BS,(l.dropWhile (· == 32)).foldl nx 0 = l.foldl nx 0
  | []=>rfl
  | c :: r=>by
    rw [List.dropWhile_cons]
    cases hc:(c == 32) with
    | true =>
      have:c = 32:=beq_iff_eq.1 hc
      subst this
      simp only [if_true]
      exact fold_drop r
    | false=>rfl
theorem fold_tr (l:BS):(tr l).foldl nx 0 = l.foldl nx 0:=by
  rw [← fold_drop l]
  obtain ⟨k,hk⟩:=trimR_rep (l.dropWhile (· == 32))
  conv=>rhs; rw [hk,List.foldl_append]
  exact (fold_rep (QS_fold _ _ (.inl rfl)) k).symm
def findC (c:UInt8):BS → Nat → UInt8 → Int
  | [],_,_=>-1
  | x :: r,i,q=>if (x == c && q == 0) = true then (i:Int) else findC c r (i + 1) (nx q x)
theorem outside_l0 (l:BS) (q c:UInt8) (hl:l.length < 2 ^ 40):∀ j n:Nat,n + j = l.length → Ref3.outside.l0 (B l) c.toNat (nI (marksL l q)) n = some (findC c (l.drop n) n ((l.take n).foldl nx q)):=by
  have hsz:(B l).size = l.length:=rfl
  intro j
  induction j with
  | zero =>
    intro n hn
    rw [Ref3.outside.l0_eq,Ref3.outside.s0]
    simp only [letk]
    rw [decide_eq_false (by omega:¬ (n:Int) < ((B l).size:Int)),cond_false,List.drop_of_length_le (by omega)]
    rfl
  | succ j ih =>
    intro n hn
    have hlt:n < l.length:=by omega
    rw [Ref3.outside.l0_eq,Ref3.outside.s0]
    simp only [letk]
    rw [decide_eq_true (by omega:(n:Int) < ((B l).size:Int)),cond_true,chk_pos (by omega),chk_pos (by omega),bt_at hlt,beq_uu,Int.toNat_natCast]
    rw [show (nI (marksL l q))[n]? = some ((((l.take n).foldl nx q).toNat:Nat):Int) by unfold nI; rw [List.getElem?_map,marksL_at l q n (by omega)]; rfl]
    simp only [Option.bind_some]
    rw [show ∀ x:UInt8,((x.toNat:Int) == 0) = (x == 0) from fun x=>beq_u8 x 0 (by omega),List.drop_eq_getElem_cons hlt,w64n (by omega) (by omega),show ((n:Int) + 1) = ((n + 1:Nat):Int) by omega]
    have ih':=ih (n + 1) (by omega)
    rw [List.take_succ_eq_append_getElem hlt,List.foldl_append] at ih'
    unfold findC
    cases (l[n] == c) with
    | false=>simp only [cond_false,Option.bind_some,Sum.elim_inl,Bool.false_and,Bool.false_eq_true,if_false]; exact ih'
    | true =>
      cases ((l.take n).foldl nx q == 0) with
      | false=>simp only [cond_true,cond_false,Option.bind_some,Sum.elim_inl,Bool.and_false,Bool.false_eq_true,if_false]; exact ih'
      | true=>rfl
theorem outside_eq (l:BS) (q c:UInt8) (hl:l.length < 2 ^ 40):Ref3.outside (B l) q.toNat c.toNat = some (findC c l 0 q):=by
  unfold Ref3.outside
  rw [marks_eq l q hl]
  simp only [Option.bind_some]
  exact outside_l0 l q c hl l.length 0 (by omega)
theorem find_two:∀ (l:BS) (i:Nat) (q:UInt8),(decide ((findL [59,33] l i q).1 < 0) && ((findL [59,33] l i q).2 == 0)) = ((l.foldl nx q == 0) && decide (findC 59 l i q < 0) && decide (findC 33 l i q < 0))
  | [],i,q=>by
    show (true && (q == 0)) = ((q == 0) && true && true)
    cases (q == 0) <;> rfl
  | x :: r,i,q=>by
    have ih:=find_two r (i + 1) (nx q x)
    unfold findL findC
    rw [List.foldl_cons]
    have hc:[(59:UInt8),33].contains x = (x == 59 || x == 33):=by
      simp [List.contains,List.elem]
      cases x == 59 <;> cases x == 33 <;> rfl
    rw [hc]
    have hi:¬ ((i:Int) < 0):=by omega
    cases (q == 0) with
    | false=>simp only [Bool.false_and,Bool.and_false,Bool.false_eq_true,if_false]; exact ih
    | true =>
      cases (x == 59) with
      | true=>simp only [Bool.true_or,Bool.true_and,if_true,decide_eq_false hi,Bool.false_and,Bool.and_false]
      | false =>
        cases (x == 33) with
        | true=>simp only [Bool.false_or,Bool.true_and,if_true,decide_eq_false hi,Bool.false_and,Bool.and_false]
        | false=>simp only [Bool.or_self,Bool.false_and,Bool.and_false,Bool.false_eq_true,if_false]; exact ih
theorem find_one:∀ (l:BS) (i:Nat) (q:UInt8),(findL [33] l i q).1 = findC 33 l i q ∧ (findC 33 l i q < 0 → (findL [33] l i q).2 = l.foldl nx q) ∧ (0 ≤ findC 33 l i q → (findL [33] l i q).2 = 0)
  | [],i,q=>⟨rfl,fun _=>rfl,fun h=>absurd h (by show ¬ (0:Int) ≤ -1; decide)⟩
  | x :: r,i,q=>by
    have ih:=find_one r (i + 1) (nx q x)
    unfold findL findC
    rw [List.foldl_cons]
    have hc:[(33:UInt8)].contains x = (x == 33):=by
      simp [List.contains,List.elem]
      cases x == 33 <;> rfl
    rw [hc,Bool.and_comm]
    split
    · rename_i h
      simp only [Bool.and_eq_true,beq_iff_eq] at h
      exact ⟨rfl,fun h2=>by omega,fun _=>h.2⟩
    · exact ih
def dig (c:UInt8):Bool:=decide ((c.toNat:Int) ≥ 48) && decide ((c.toNat:Int) ≤ 57)
def preD (l:BS):Nat:=(l.takeWhile dig).length
theorem isDigit_eq (c:UInt8):Src.isDigit c.toNat = some (dig c):=by
  unfold Src.isDigit dig
  simp only [letk]
  cases decide ((c.toNat:Int) ≥ 48) <;> rfl
theorem risDigit_eq (c:UInt8):Ref3.isDigit c.toNat = some (dig c):=by
  unfold Ref3.isDigit dig
  simp only [letk]
  cases decide ((c.toNat:Int) ≥ 48) <;> rfl
theorem preD_le (l:BS):preD l ≤ l.length:=(List.takeWhile_prefix _).length_le
theorem preD_cons (c:UInt8) (r:BS):preD (c :: r) = if dig c = true then preD r + 1 else 0:=by
  unfold preD
  rw [List.takeWhile_cons]
  split <;> simp_all
def labelled (l:BS):Bool:=decide (0 < preD l) && (decide (preD l < l.length) && (l.getD (preD l) 0 == 32))
theorem numbered_j0 (l:BS) (n:Nat) (hl:l.length < 2 ^ 62):Src.numbered.j0 (B l) n = some ((n:Int),decide (0 < n) && (decide (n < l.length) && (l.getD n 0 == 32))):=by
  have hsz:(B l).size = l.length:=rfl
  unfold Src.numbered.j0
  simp only [letk]
  rw [show decide ((n:Int) > 0) = decide (0 < n) by rw [decide_eq_decide]; omega,show decide ((n:Int) < ((B l).size:Int)) = decide (n < l.length) by rw [decide_eq_decide]; omega]
  by_cases h0:0 < n
  · rw [decide_eq_true h0,cond_true]
    by_cases h1:n < l.length
    · rw [decide_eq_true h1,cond_true,chk_pos (by omega),show bt (B l) n = ((l.getD n 0).toNat:Int) from rfl,show ∀ x:UInt8,((x.toNat:Int) == 32) = (x == 32) from fun x=>beq_u8 x 32 (by omega)]
      rfl
    · rw [decide_eq_false h1]; rfl
  · rw [decide_eq_false h0]; rfl
theorem numbered_l0 (l:BS) (hl:l.length < 2 ^ 62):∀ j n:Nat,n + j = l.length → Src.numbered.l0 (B l) n = some (((n + preD (l.drop n):Nat):Int),decide (0 < n + preD (l.drop n)) && (decide (n + preD (l.drop n) < l.length) && (l.getD (n + preD (l.drop n)) 0 == 32))):=by
  have hsz:(B l).size = l.length:=rfl
  intro j
  induction j with
  | zero =>
    intro n hn
    rw [Src.numbered.l0_eq,Src.numbered.s0]
    simp only [letk]
    rw [decide_eq_false (by omega:¬ (n:Int) < ((B l).size:Int)),cond_false,List.drop_of_length_le (by omega),numbered_j0 l n hl]
    rfl
  | succ j ih =>
    intro n hn
    have hlt:n < l.length:=by omega
    rw [Src.numbered.l0_eq,Src.numbered.s0]
    simp only [letk]
    rw [decide_eq_true (by omega:(n:Int) < ((B l).size:Int)),cond_true,chk_pos (by omega),bt_at hlt,isDigit_eq]
    simp only [Option.bind_some]
    rw [List.drop_eq_getElem_cons hlt,preD_cons,w64n (by omega) (by omega),show ((n:Int) + 1) = ((n + 1:Nat):Int) by omega]
    cases hd:dig l[n] with
    | true =>
      simp only [cond_true,Option.bind_some,Sum.elim_inl,if_true]
      rw [ih (n + 1) (by omega),show n + 1 + preD (l.drop (n + 1)) = n + (preD (l.drop (n + 1)) + 1) by omega]
    | false =>
      simp only [cond_false,Bool.false_eq_true,if_false,Nat.add_zero]
      rw [numbered_j0 l n hl]
      rfl
theorem numbered_eq (l:BS) (hl:l.length < 2 ^ 62):Src.numbered (B l) = some ((preD l:Int),labelled l):=by
  unfold Src.numbered
  have:=numbered_l0 l hl l.length 0 (by omega)
  simp only [List.drop_zero,Nat.zero_add] at this
  exact this
theorem digits_l0 (l:BS) (hl:l.length < 2 ^ 62):∀ j n:Nat,n + j = l.length → Ref3.digits.l0 (B l) n = some ((n + preD (l.drop n):Nat):Int):=by
  have hsz:(B l).size = l.length:=rfl
  intro j
  induction j with
  | zero =>
    intro n hn
    rw [Ref3.digits.l0_eq,Ref3.digits.s0]
    simp only [letk]
    rw [decide_eq_false (by omega:¬ (n:Int) < ((B l).size:Int)),cond_false,List.drop_of_length_le (by omega)]
    rfl
  | succ j ih =>
    intro n hn
    have hlt:n < l.length:=by omega
    rw [Ref3.digits.l0_eq,Ref3.digits.s0]
    simp only [letk]
    rw [decide_eq_true (by omega:(n:Int) < ((B l).size:Int)),cond_true,chk_pos (by omega),bt_at hlt,risDigit_eq]
    simp only [Option.bind_some]
    rw [List.drop_eq_getElem_cons hlt,preD_cons,w64n (by omega) (by omega),show ((n:Int) + 1) = ((n + 1:Nat):Int) by omega]
    cases hd:dig l[n] with
    | true =>
      simp only [cond_true,Option.bind_some,Sum.elim_inl,if_true]
      rw [ih (n + 1) (by omega),show n + 1 + preD (l.drop (n + 1)) = n + (preD (l.drop (n + 1)) + 1) by omega]
    | false=>rfl
theorem digits_eq (l:BS) (hl:l.length < 2 ^ 62):Ref3.digits (B l) = some (preD l:Int):=by
  unfold Ref3.digits
  have:=digits_l0 l hl l.length 0 (by omega)
  rw [List.drop_zero,Nat.zero_add] at this
  exact this
def amp (l:BS):Bool:=l.getD (l.length - 1) 0 == 38
def stOK (l:BS):Bool:=!(l == []) && ((tr l == l) && (l.all okB && ((l.foldl nx 0 == 0) && (decide (findC 59 l 0 0 < 0) && (decide (findC 33 l 0 0 < 0) && (!(amp l) && !(labelled l)))))))
theorem suffix_amp (l:BS) (h0:l ≠ []) (hl:l.length < 2 ^ 62):Strs.HasSuffix (B l) ⟨#[38]⟩ = some (amp l):=by
  have hsz:(B l).size = l.length:=rfl
  have hs1:(⟨#[38]⟩:ByteArray).size = 1:=rfl
  have hp:=List.length_pos_iff.2 h0
  unfold Strs.HasSuffix Slite.HasSuffix
  simp only [letk]
  rw [hs1,decide_eq_true (by omega:((B l).size:Int) ≥ ((1:Nat):Int)),cond_true,w64n (by omega) (by omega),chk_pos (by omega)]
  simp only [Option.bind_some]
  rw [show (((B l).size:Int) - ((1:Nat):Int)).toNat = l.length - 1 by omega,ext_D,L_B,eqL,L_B]
  congr 1
  unfold amp
  rw [show L (⟨#[38]⟩:ByteArray) = [38] from rfl,List.drop_eq_getElem_cons (by omega:l.length - 1 < l.length),List.drop_of_length_le (by omega),List.getD_eq_getElem?_getD,List.getElem?_eq_getElem (by omega:l.length - 1 < l.length)]
  show (l[l.length - 1] == 38 && true) = _
  rw [Bool.and_true]; rfl
theorem isStatement_eq (l:BS) (hl:l.length < 2 ^ 40):Src.isStatement (B l) = some (stOK l):=by
  have hsz:(B l).size = l.length:=rfl
  unfold Src.isStatement
  rw [show Src.find (B l) ⟨#[59,33]⟩ 0 = _ from find_eq l [59,33] 0 (by omega),numbered_eq l (by omega),isText_eq l (by omega),strim_eq l (by omega)]
  simp only [Option.bind_some,letk]
  rw [eqL,eqL,L_B,L_B,L_e0,show ∀ x:UInt8,((x.toNat:Int) == 0) = (x == 0) from fun x=>beq_u8 x 0 (by omega)]
  have h2:=find_two l 0 0
  unfold stOK
  by_cases h0:l = []
  · subst h0; rfl
  rw [suffix_amp l h0 (by omega)]
  simp only [Option.bind_some]
  have he:(l == []) = false:=by cases l with | nil=>exact absurd rfl h0 | cons=>rfl
  rw [he]
  generalize (findL [59,33] l 0 0) = fl at h2 ⊢
  generalize decide (fl.1 < 0) = d1 at h2 ⊢
  generalize (fl.2 == 0) = d2 at h2 ⊢
  generalize (l.foldl nx 0 == 0) = e1 at h2 ⊢
  generalize decide (findC 59 l 0 0 < 0) = e2 at h2 ⊢
  generalize decide (findC 33 l 0 0 < 0) = e3 at h2 ⊢
  generalize l.all okB = x1
  generalize (tr l == l) = x2
  generalize amp l = x3
  generalize labelled l = x4
  revert h2
  cases d1 <;> cases d2 <;> cases e1 <;> cases e2 <;> cases e3 <;> cases x1 <;> cases x2 <;> cases x3 <;> cases x4 <;> first | (intro h2; rfl) | (intro h2; cases h2)
theorem isTextR_l0 (l:BS) (h0:l ≠ []) (hl:l.length < 2 ^ 40):∀ j n:Nat,n + j = l.length → Ref3.IsText.l0 (B l) n = some ((l.drop n).all okB && ((l.foldl nx 0 == 0) && (decide (findC 59 l 0 0 < 0) && (decide (findC 33 l 0 0 < 0) && (!(amp l) && !(labelled l)))))):=by
  have hsz:(B l).size = l.length:=rfl
  have hp:=List.length_pos_iff.2 h0
  intro j
  induction j with
  | zero =>
    intro n hn
    rw [Ref3.IsText.l0_eq,Ref3.IsText.s0]
    simp only [letk]
    rw [decide_eq_false (by omega:¬ (n:Int) < ((B l).size:Int)),cond_false,List.drop_of_length_le (by omega)]
    rw [show Ref3.marks (B l) 0 = _ from marks_eq l 0 hl,show Ref3.outside (B l) 0 59 = _ from outside_eq l 0 59 hl,show Ref3.outside (B l) 0 33 = _ from outside_eq l 0 33 hl]
    simp only [Option.bind_some]
    rw [chk_pos (by omega),show (((B l).size:Nat):Int).toNat = l.length by rw [hsz]; rfl]
    rw [show (nI (marksL l 0))[l.length]? = some (((l.foldl nx 0).toNat:Nat):Int) by unfold nI; rw [List.getElem?_map,marksL_at l 0 l.length (Nat.le_refl _),List.take_length]; rfl]
    simp only [Option.bind_some]
    rw [show ∀ x:UInt8,((x.toNat:Int) != 0) = !(x == 0) from fun x=>by rw [bne,show ((x.toNat:Int) == 0) = (x == 0) from beq_u8 x 0 (by omega)]]
    rw [w64n (by omega) (by omega),chk_pos (by omega),show (((B l).size:Int) - 1) = ((l.length - 1:Nat):Int) by omega,show bt (B l) ((l.length - 1:Nat):Int) = ((l.getD (l.length - 1) 0).toNat:Int) from rfl,show ∀ x:UInt8,((x.toNat:Int) == 38) = (x == 38) from fun x=>beq_u8 x 38 (by omega)]
    have hj:Ref3.IsText.j1 (B l) = some (!(labelled l)):=by
      unfold Ref3.IsText.j1
      rw [digits_eq l (by omega)]
      simp only [Option.bind_some,letk]
      unfold labelled
      have hle:=preD_le l
      by_cases hz:preD l = 0
      · rw [show ((preD l:Int) == 0) = true from beq_iff_eq.2 (by omega),cond_true,decide_eq_false (by omega:¬ 0 < preD l)]; rfl
      · rw [show ((preD l:Int) == 0) = false from beq_eq_false_iff_ne.2 (by omega),cond_false,decide_eq_true (by omega:0 < preD l)]
        by_cases hy:preD l = l.length
        · rw [show ((preD l:Int) == ((B l).size:Int)) = true from beq_iff_eq.2 (by omega),cond_true,decide_eq_false (by omega:¬ preD l < l.length)]; rfl
        · rw [show ((preD l:Int) == ((B l).size:Int)) = false from beq_eq_false_iff_ne.2 (by omega),cond_false,decide_eq_true (by omega:preD l < l.length),chk_pos (by omega)]
          rw [show bt (B l) (preD l:Int) = ((l.getD (preD l) 0).toNat:Int) from rfl,bne,show ∀ x:UInt8,((x.toNat:Int) == 32) = (x == 32) from fun x=>beq_u8 x 32 (by omega)]
          rfl
    rw [hj]
    rw [show decide (findC 59 l 0 0 ≥ 0) = !(decide (findC 59 l 0 0 < 0)) by rw [← decide_not,decide_eq_decide]; omega,show decide (findC 33 l 0 0 ≥ 0) = !(decide (findC 33 l 0 0 < 0)) by rw [← decide_not,decide_eq_decide]; omega]
    show _ = some (true && ((l.foldl nx 0 == 0) && (decide (findC 59 l 0 0 < 0) && (decide (findC 33 l 0 0 < 0) && (!(l.getD (l.length - 1) 0 == 38) && !(labelled l))))))
    cases (l.foldl nx 0 == 0) <;> cases decide (findC 59 l 0 0 < 0) <;> cases decide (findC 33 l 0 0 < 0) <;> cases (l.getD (l.length - 1) 0 == 38) <;> rfl
  | succ j ih =>
    intro n hn
    have hlt:n < l.length:=by omega
    rw [Ref3.IsText.l0_eq,Ref3.IsText.s0]
    simp only [letk]
    rw [decide_eq_true (by omega:(n:Int) < ((B l).size:Int)),cond_true,chk_pos (by omega),chk_pos (by omega),bt_at hlt]
    rw [List.drop_eq_getElem_cons hlt,List.all_cons,w64n (by omega) (by omega),show ((n:Int) + 1) = ((n + 1:Nat):Int) by omega]
    have ih':=ih (n + 1) (by omega)
    unfold okB
    cases decide (((l[n].toNat:Nat):Int) < 32) with
    | true=>rfl
    | false =>
      cases decide (((l[n].toNat:Nat):Int) > 126) with
      | true=>rfl
      | false=>simp only [cond_false,Option.bind_some,Sum.elim_inl,Bool.not_false,Bool.true_and]; exact ih'
theorem isTextR_eq (l:BS) (hl:l.length < 2 ^ 40):Ref3.IsText (B l) = some (stOK l):=by
  unfold Ref3.IsText
  simp only [letk]
  rw [rtrim_eq l (by omega)]
  simp only [Option.bind_some]
  rw [eqL,eqL,L_B,L_B,L_e0]
  unfold stOK
  by_cases h0:l = []
  · subst h0; rfl
  have he:(l == []) = false:=by cases l with | nil=>exact absurd rfl h0 | cons=>rfl
  rw [he]
  unfold Ref3.IsText.j0
  rw [show Ref3.IsText.l0 (B l) 0 = _ from isTextR_l0 l h0 hl l.length 0 (by omega),List.drop_zero]
  cases (tr l == l) <;> rfl
end Go.Q
