import Derived.Test.YtoecgpemlfoogaaGreatDoorF2
import Derived.Lib.SplitLaws
namespace Go.Q
open Go
def linesL:BS → BS → List BS
  | [],now=>if now = [] then [] else [now]
  | c :: r,now=>if c = 10 then now :: linesL r [] else linesL r (now ++ [c])
def pieces:BS → BS → List BS
  | [],now=>[now]
  | c :: r,now=>if c = 10 then now :: pieces r [] else pieces r (now ++ [c])
theorem pieces_now:∀ (l now:BS),∃ h t,pieces l [] = h :: t ∧ pieces l now = (now ++ h) :: t
  | [],now=>⟨[],[],rfl,by simp [pieces]⟩
  | c :: r,now=>by
    unfold pieces
    by_cases h:c = 10
    · rw [if_pos h,if_pos h]; exact ⟨[],pieces r [],rfl,by simp⟩
    · rw [if_neg h,if_neg h]
      obtain ⟨h0,t0,e0,e1⟩:=pieces_now r [c]
      obtain ⟨h2,t2,e2,e3⟩:=pieces_now r (now ++ [c])
      rw [e0] at e2
      cases e2
      exact ⟨c :: h0,t0,by simpa using e1,by rw [e3]; simp⟩
theorem index_cons (b:UInt8) (l:BS):Lib.index (b :: l) [10] = if b = 10 then 0 else if Lib.index l [10] = -1 then -1 else Lib.index l [10] + 1:=by
  rw [Lib.index]
  have:List.isPrefixOf [(10:UInt8)] (b :: l) = ((10:UInt8) == b):=by show (((10:UInt8) == b) && _) = _; simp
  rw [this]
  by_cases h:b = 10
  · rw [if_pos h,if_pos (by rw [h]; simp)]
  · rw [if_neg h,if_neg (by rw [beq_iff_eq]; exact fun e=>h e.symm)]
    by_cases h2:Lib.index l [10] = -1
    · rw [if_pos h2,if_pos (by rw [h2]; rfl)]
    · rw [if_neg h2,if_neg (by rw [beq_iff_eq]; exact h2)]
theorem splitK_pieces:∀ (l:BS) (k:Nat),l.count 10 ≤ k → Lib.splitK [10] 0 k l = pieces l []
  | [],0,_=>rfl
  | [],k + 1,_=>rfl
  | c :: r,k,h=>by
    by_cases hc:c = 10
    · subst hc
      rw [List.count_cons_self] at h
      obtain ⟨k',rfl⟩:∃ k',k = k' + 1:=⟨k - 1,by omega⟩
      unfold Lib.splitK pieces
      rw [index_cons,if_pos rfl,if_pos rfl,if_neg (by decide)]
      show [] :: Lib.splitK [10] 0 k' r = _
      rw [splitK_pieces r k' (by omega)]
    · rw [List.count_cons_of_ne hc] at h
      have ih:=splitK_pieces r k h
      unfold pieces
      rw [if_neg hc]
      obtain ⟨h0,t0,e0,e1⟩:=pieces_now r [c]
      rw [List.nil_append,e1]
      rw [e0] at ih
      cases k with
      | zero=>cases ih; rfl
      | succ k =>
        unfold Lib.splitK at ih ⊢
        rw [index_cons,if_neg hc]
        by_cases h2:Lib.index r [10] = -1
        · rw [if_pos h2,if_pos (by decide)]
          rw [if_pos (by rw [h2]; rfl)] at ih
          cases ih; rfl
        · have hge:=Lib.index_ge r [10]
          obtain ⟨i,hi⟩:∃ i:Nat,Lib.index r [10] = i:=⟨(Lib.index r [10]).toNat,by omega⟩
          rw [if_neg h2,if_neg (by rw [beq_iff_eq]; omega)]
          rw [if_neg (by rw [beq_iff_eq]; exact h2)] at ih
          rw [hi] at ih ⊢
          rw [show ((i:Int) + 1).toNat = i + 1 by omega]
          rw [show ((i:Int)).toNat = i from rfl] at ih
          simp only [List.length_singleton,Nat.add_zero] at ih ⊢
          rw [List.take_succ_cons,show i + 1 + 1 = (i + 1) + 1 from rfl,List.drop_succ_cons]
          cases ih; rfl
theorem ssplit_eq (l:BS) (hl:l.length < 2 ^ 31):Strs.Split (B l) ⟨#[10]⟩ = some ((pieces l []).map B):=by
  have hsz:(B l).size = l.length:=rfl
  unfold Strs.Split
  rw [chk_pos ⟨by omega,by decide⟩]
  congr 1
  have h:=Lib.splitB_data ⟨#[10]⟩ 0 (Lib.countB (B l) ⟨#[10]⟩) (B l)
  have hc:Lib.countB (B l) ⟨#[10]⟩ = l.count 10:=Lib.count_one 10 l
  rw [hc] at h ⊢
  have h2:(Lib.splitB ⟨#[10]⟩ 0 (l.count 10) (B l)).map L = pieces l []:=by
    rw [← splitK_pieces l (l.count 10) (Nat.le_refl _)]
    exact h
  rw [← h2,List.map_map]
  conv=>lhs; rw [← List.map_id (Lib.splitB ⟨#[10]⟩ 0 (l.count 10) (B l))]
  apply List.map_congr_left
  intro x _
  show x = B (L x)
  rw [B_L]
def cut10:BS → BS
  | []=>[]
  | [c]=>if c = 10 then [] else [c]
  | c :: d :: r=>c :: cut10 (d :: r)
theorem cut10_eq:∀ l:BS,l ≠ [] → cut10 l = if (l.getD (l.length - 1) 0 == 10) = true then l.take (l.length - 1) else l
  | [],h=>absurd rfl h
  | [c],_=>by
    show (if c = 10 then [] else [c]) = if (c == 10) = true then [] else [c]
    by_cases h:c = 10
    · rw [if_pos h,if_pos (by rw [h]; rfl)]
    · rw [if_neg h,if_neg (by rw [beq_iff_eq]; exact h)]
  | c :: d :: r,_=>by
    have ih:=cut10_eq (d :: r) (by simp)
    show c :: cut10 (d :: r) = if (((d :: r).getD r.length 0) == 10) = true then c :: (d :: r).take r.length else c :: d :: r
    rw [ih]
    show c :: (if ((d :: r).getD r.length 0 == 10) = true then (d :: r).take r.length else d :: r) = _
    split <;> rfl
theorem linesL_pieces:∀ (l now:BS),l ≠ [] → linesL l now = pieces (cut10 l) now
  | [],_,h=>absurd rfl h
  | [c],now,_=>by
    show (if c = 10 then now :: linesL [] [] else linesL [] (now ++ [c])) = pieces (if c = 10 then [] else [c]) now
    by_cases h:c = 10
    · rw [if_pos h,if_pos h]; rfl
    · rw [if_neg h,if_neg h]
      show (if now ++ [c] = [] then [] else [now ++ [c]]) = (if c = 10 then _ else [now ++ [c]])
      rw [if_neg (by simp),if_neg h]
  | c :: d :: r,now,_=>by
    have i1:=linesL_pieces (d :: r) [] (by simp)
    have i2:=linesL_pieces (d :: r) (now ++ [c]) (by simp)
    show (if c = 10 then now :: linesL (d :: r) [] else linesL (d :: r) (now ++ [c])) = (if c = 10 then now :: pieces (cut10 (d :: r)) [] else pieces (cut10 (d :: r)) (now ++ [c]))
    rw [i1,i2]
theorem suffix_nl (l:BS) (h0:l ≠ []) (hl:l.length < 2 ^ 62):Slite.HasSuffix (B l) ⟨#[10]⟩ = some (l.getD (l.length - 1) 0 == 10):=by
  have hsz:(B l).size = l.length:=rfl
  have hs1:(⟨#[10]⟩:ByteArray).size = 1:=rfl
  have hp:=List.length_pos_iff.2 h0
  unfold Slite.HasSuffix
  simp only [letk]
  rw [hs1,decide_eq_true (by omega:((B l).size:Int) ≥ ((1:Nat):Int)),cond_true,w64n (by omega) (by omega),chk_pos (by omega)]
  rw [show (((B l).size:Int) - ((1:Nat):Int)).toNat = l.length - 1 by omega,ext_D,L_B,eqL,L_B]
  congr 1
  rw [show L (⟨#[10]⟩:ByteArray) = [10] from rfl,List.drop_eq_getElem_cons (by omega:l.length - 1 < l.length),List.drop_of_length_le (by omega),List.getD_eq_getElem?_getD,List.getElem?_eq_getElem (by omega:l.length - 1 < l.length)]
  show (l[l.length - 1] == 10 && true) = _
  rw [Bool.and_true]; rfl
theorem trimsuf_eq (l:BS) (h0:l ≠ []) (hl:l.length < 2 ^ 62):Strs.TrimSuffix (B l) ⟨#[10]⟩ = some (B (cut10 l)):=by
  have hsz:(B l).size = l.length:=rfl
  have hs1:(⟨#[10]⟩:ByteArray).size = 1:=rfl
  have hp:=List.length_pos_iff.2 h0
  unfold Strs.TrimSuffix Slite.TrimSuffix
  rw [suffix_nl l h0 hl]
  simp only [Option.bind_some,letk]
  rw [cut10_eq l h0,hs1,w64n (by omega) (by omega),chk_pos (by omega),show (((B l).size:Int) - ((1:Nat):Int)).toNat = l.length - 1 by omega,ext_B,L_B]
  cases (l.getD (l.length - 1) 0 == 10) <;> rfl
theorem cut10_len:∀ l:BS,(cut10 l).length ≤ l.length
  | []=>Nat.le_refl _
  | [c]=>by unfold cut10; split <;> simp
  | c :: d :: r=>by
    have:=cut10_len (d :: r)
    show (c :: cut10 (d :: r)).length ≤ _
    simp only [List.length_cons] at this ⊢; omega
theorem lines_eq (l:BS) (hl:l.length < 2 ^ 31):Src.lines (B l) = some ((linesL l []).map B):=by
  unfold Src.lines
  simp only [letk]
  rw [eqL,L_B,L_e0]
  by_cases h0:l = []
  · subst h0; rfl
  have he:(l == []) = false:=by cases l with | nil=>exact absurd rfl h0 | cons=>rfl
  have:=cut10_len l
  rw [he,cond_false,trimsuf_eq l h0 (by omega)]
  simp only [Option.bind_some]
  rw [ssplit_eq (cut10 l) (by omega),linesL_pieces l [] h0]
  rfl
theorem linesL_len:∀ (l now:BS),(linesL l now).length ≤ l.length + now.length ∧ ∀ x ∈ linesL l now,x.length ≤ l.length + now.length
  | [],now=>by
    unfold linesL
    split
    · exact ⟨Nat.zero_le _,fun x hx=>by cases hx⟩
    · rename_i h
      have:=List.length_pos_iff.2 h
      refine ⟨by simp only [List.length_singleton]; omega,fun x hx=>?_⟩
      rw [List.mem_singleton] at hx
      subst hx; omega
  | c :: r,now=>by
    have e:linesL (c :: r) now = if c = 10 then now :: linesL r [] else linesL r (now ++ [c]):=rfl
    rw [e]
    by_cases h:c = 10
    · rw [if_pos h]
      obtain ⟨h1,h2⟩:=linesL_len r []
      rw [List.length_nil,Nat.add_zero] at h1 h2
      refine ⟨by rw [List.length_cons,List.length_cons]; omega,fun x hx=>?_⟩
      rw [List.length_cons]
      rcases List.mem_cons.1 hx with rfl | hx
      · omega
      · have:=h2 x hx; omega
    · rw [if_neg h]
      obtain ⟨h1,h2⟩:=linesL_len r (now ++ [c])
      have e2:(now ++ [c]).length = now.length + 1:=by simp
      rw [e2] at h1 h2
      rw [List.length_cons]
      exact ⟨by omega,fun x hx=>by have:=h2 x hx; omega⟩
def dval:Nat → BS → Nat
  | a,[]=>a
  | a,c :: r=>dval (10 * a + (c.toNat - 48)) r
theorem dig_b {c:UInt8} (h:dig c = true):48 ≤ c.toNat ∧ c.toNat ≤ 57:=by
  unfold dig at h
  simp only [Bool.and_eq_true,decide_eq_true_eq] at h
  omega
theorem parse_dig:∀ (l:BS) (a:Nat),l.all dig = true → a * 10 ^ l.length + 10 ^ l.length ≤ 10 ^ 6 → Lib.parseUint10 a l = .ok (dval a l)
  | [],_,_,_=>rfl
  | c :: r,a,h,hb=>by
    simp only [List.all_cons,Bool.and_eq_true] at h
    obtain ⟨d1,d2⟩:=dig_b h.1
    have hp:0 < 10 ^ r.length:=Nat.pow_pos (by omega)
    rw [List.length_cons,Nat.pow_succ] at hb
    have hle:1 ≤ 10 ^ r.length:=hp
    have hmul:a * (10 ^ r.length * 10) = (10 * a) * 10 ^ r.length:=by rw [Nat.mul_comm (10 ^ r.length),← Nat.mul_assoc,Nat.mul_comm a]
    rw [hmul] at hb
    have hmul2:(10 * a + (c.toNat - 48)) * 10 ^ r.length = 10 * a * 10 ^ r.length + (c.toNat - 48) * 10 ^ r.length:=Nat.add_mul _ _ _
    have h9:(c.toNat - 48) * 10 ^ r.length ≤ 9 * 10 ^ r.length:=Nat.mul_le_mul_right _ (by omega)
    have ha:10 * a ≤ 10 * a * 10 ^ r.length:=Nat.le_mul_of_pos_right _ hp
    unfold Lib.parseUint10
    rw [if_pos ⟨d1,d2⟩,if_neg (by omega),if_neg (by omega)]
    rw [show a * 10 + (c.toNat - 48) = 10 * a + (c.toNat - 48) by omega]
    exact parse_dig r _ h.2 (by rw [hmul2]; omega)
theorem preD_all:∀ l:BS,preD (l ++ [32]) = l.length ↔ l.all dig = true
  | []=>by simp [preD,List.takeWhile]; decide
  | c :: r=>by
    rw [List.cons_append,preD_cons,List.all_cons,List.length_cons]
    have:=preD_all r
    cases dig c with
    | true=>simp only [if_true,Bool.true_and]; rw [← this]; omega
    | false=>simp
theorem dval_lt:∀ (l:BS) (a:Nat),l.all dig = true → dval a l < (a + 1) * 10 ^ l.length:=by
  intro l
  induction l with
  | nil=>intro a _; show a < (a + 1) * 1; omega
  | cons x y ih =>
    intro a h
    simp only [List.all_cons,Bool.and_eq_true] at h
    obtain ⟨x1,x2⟩:=dig_b h.1
    have:=ih (10 * a + (x.toNat - 48)) h.2
    show dval (10 * a + (x.toNat - 48)) y < _
    rw [List.length_cons,Nat.pow_succ]
    have h3:(10 * a + (x.toNat - 48) + 1) * 10 ^ y.length ≤ (10 * (a + 1)) * 10 ^ y.length:=Nat.mul_le_mul_right _ (by omega)
    have h4:(a + 1) * (10 ^ y.length * 10) = (10 * (a + 1)) * 10 ^ y.length:=by rw [Nat.mul_comm (10 ^ y.length),← Nat.mul_assoc,Nat.mul_comm (a + 1)]
    omega
theorem atoi_dig (l:BS) (hl:l.length ≤ 5) (h0:l ≠ []) (ha:l.all dig = true):Lib.atoiAll l = .ok (dval 0 l:Int):=by
  cases l with
  | nil=>exact absurd rfl h0
  | cons c r =>
    have hc:dig c = true:=by simp only [List.all_cons,Bool.and_eq_true] at ha; exact ha.1
    obtain ⟨d1,d2⟩:=dig_b hc
    have h5:10 ^ (c :: r).length ≤ 10 ^ 5:=Nat.pow_le_pow_right (by omega) hl
    have hpd:=parse_dig (c :: r) 0 ha (by omega)
    have hb2:=dval_lt (c :: r) 0 ha
    unfold Lib.atoiAll Lib.parseMag
    simp only
    rw [if_neg (by omega:¬ (c.toNat = 43 ∨ c.toNat = 45)),if_neg (by simp),hpd]
    simp only
    rw [if_neg (by omega),if_neg (by omega),if_neg (by omega)]
theorem labelOf_eq (l:BS) (hl:l.length ≤ 5):∃ n:Int,Src.labelOf (B l) = some (n,!(l == []) && (l.all dig && decide (0 < dval 0 l))) ∧ ((!(l == []) && l.all dig) = true → n = dval 0 l) ∧ (l = [] → n = 0):=by
  have hsz:(B l).size = l.length:=rfl
  have hs1:(⟨#[32]⟩:ByteArray).size = 1:=rfl
  have key:∀ (n:Int) (b:Bool),Strconv.Atoi (B l) = some (n,b) → Src.labelOf (B l) = some (n,b && (l.all dig && decide (n > 0))):=by
    intro n b h
    unfold Src.labelOf
    rw [h]
    simp only [Option.bind_some,letk]
    rw [chk_pos (by omega),chk_pos (by omega),show B l ++ (⟨#[32]⟩:ByteArray) = B (l ++ [32]) from B_appR l [32],numbered_eq _ (by simp only [List.length_append,List.length_singleton]; omega)]
    simp only [Option.bind_some]
    rw [hsz,decide_eq_true (by omega:(l.length:Int) ≤ 5)]
    have hd:((preD (l ++ [32]):Int) == (l.length:Int)) = l.all dig:=by
      rw [Bool.eq_iff_iff,beq_iff_eq,← preD_all]; omega
    rw [hd]
    cases b <;> cases l.all dig <;> rfl
  have hA:∀ n b,(match Lib.atoiAll l with | .ok v=>(v,true) | Lib.NumEnd.syntax=>(0,false) | .range=>(Lib.atoiSat l,false)) = ((n:Int),b) → Strconv.Atoi (B l) = some (n,b):=by
    intro n b h
    unfold Strconv.Atoi
    rw [chk_pos (by omega),L_B]
    exact congrArg some h
  by_cases h0:l = []
  · subst h0
    exact ⟨0,key 0 false (hA 0 false rfl),by intro h; simp at h,fun _=>rfl⟩
  have he:(l == []) = false:=by cases l with | nil=>exact absurd rfl h0 | cons=>rfl
  rw [he]
  cases ha:l.all dig with
  | true =>
    have hp:=atoi_dig l hl h0 ha
    refine ⟨(dval 0 l:Int),?_,fun _=>rfl,fun h=>absurd h h0⟩
    rw [key _ true (hA _ true (by rw [hp])),ha,show decide (((dval 0 l:Nat):Int) > 0) = decide (0 < dval 0 l) by rw [decide_eq_decide]; omega]
    rfl
  | false =>
    obtain ⟨n,b,hn⟩:∃ n b,(match Lib.atoiAll l with | .ok v=>(v,true) | Lib.NumEnd.syntax=>(0,false) | .range=>(Lib.atoiSat l,false)) = ((n:Int),b):=⟨_,_,rfl⟩
    refine ⟨n,?_,fun h=>?_,fun h=>absurd h h0⟩
    · rw [key n b (hA n b hn),ha]
      cases b <;> rfl
    · simp at h
end Go.Q
