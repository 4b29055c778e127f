import Derived.Test.YtognkiddigibnaaGreatDoorPC
import Derived.Lib.AtoiAll
import Derived.Lib.IndexAny
import Derived.Lib.SlTrimSet
import Derived.Lib.IndexMore
import Derived.Test.YtognkiddigibnaaGreatDoorLG3
import Derived.Test.YtognkiddigibnaaGreatDoorZU
import Derived.Test.YtognkiddigibnaaGreatDoorLFE
namespace Go.Q
open Go
def dgt (c:UInt8):Bool:=decide (48 ≤ c.toNat) && decide (c.toNat ≤ 57)
theorem dgt_b {c:UInt8} (h:dgt c = true):48 ≤ c.toNat ∧ c.toNat ≤ 57:=by
  unfold dgt at h
  rw [Bool.and_eq_true,decide_eq_true_eq,decide_eq_true_eq] at h
  exact h
def dvl:Nat → BS → Nat
  | a,[]=>a
  | a,c :: r=>dvl (10 * a + (c.toNat - 48)) r
theorem dvl_ge:∀ (l:BS) (a:Nat),a ≤ dvl a l
  | [],_=>Nat.le_refl _
  | c :: r,a=>by
    have:=dvl_ge r (10 * a + (c.toNat - 48))
    show a ≤ dvl (10 * a + (c.toNat - 48)) r
    omega
theorem parse_all:∀ (l:BS) (a:Nat),l.all dgt = true → a < 18446744073709551616 → Lib.parseUint10 a l = if dvl a l < 18446744073709551616 then .ok (dvl a l) else .range
  | [],a,_,h=>by
    show Lib.NumEnd.ok a = _
    rw [if_pos (show dvl a [] < 18446744073709551616 from h)]; rfl
  | c :: r,a,h,h1=>by
    rw [List.all_cons,Bool.and_eq_true] at h
    have hc:=dgt_b h.1
    have hg:=dvl_ge r (10 * a + (c.toNat - 48))
    unfold Lib.parseUint10
    rw [if_pos hc]
    show _ = if dvl (10 * a + (c.toNat - 48)) r < _ then Lib.NumEnd.ok (dvl (10 * a + (c.toNat - 48)) r) else _
    split
    · rw [if_neg (by omega)]
    · split
      · rw [if_neg (by omega)]
      · rw [show a * 10 + (c.toNat - 48) = 10 * a + (c.toNat - 48) by omega]
        exact parse_all r _ h.2 (by omega)
theorem dvl_zeros:∀ l:BS,dvl 0 (l.dropWhile (· == 48)) = dvl 0 l
  | []=>rfl
  | c :: r=>by
    rw [List.dropWhile_cons]
    cases hc:c == 48 with
    | true =>
      have:c = 48:=beq_iff_eq.1 hc
      subst this
      simp only [if_true]
      rw [dvl_zeros r]
      rfl
    | false=>simp
theorem all_zeros:∀ l:BS,(l.dropWhile (· == 48)).all dgt = l.all dgt
  | []=>rfl
  | c :: r=>by
    rw [List.dropWhile_cons]
    cases hc:c == 48 with
    | true =>
      have:c = 48:=beq_iff_eq.1 hc
      subst this
      simp only [if_true]
      rw [all_zeros r]
      rfl
    | false=>simp
theorem drop_head:∀ (p:UInt8 → Bool) (l:BS) (c:UInt8) (r:BS),l.dropWhile p = c :: r → p c = false
  | p,[],c,r,h=>by cases h
  | p,d :: l,c,r,h=>by
    rw [List.dropWhile_cons] at h
    cases hd:p d with
    | true=>rw [hd] at h; exact drop_head p l c r (by simpa using h)
    | false=>rw [hd] at h; simp at h; rw [← h.1]; exact hd
theorem drop_all:∀ (p:UInt8 → Bool) (l:BS),l.dropWhile p = [] ↔ l.all p = true
  | p,[]=>by simp
  | p,d :: l=>by
    rw [List.dropWhile_cons,List.all_cons]
    cases hd:p d with
    | true=>simpa using drop_all p l
    | false=>simp
theorem atoi_zeros (l:BS):(∃ v:Nat,1 ≤ v ∧ Lib.atoiAll (l.dropWhile (· == 48)) = .ok (v:Int) ∧ l.all dgt = true ∧ dvl 0 l = v) ∨ ((l.dropWhile (· == 48)).all dgt = false) ∨
    ((∀ v,Lib.atoiAll (l.dropWhile (· == 48)) ≠ .ok v) ∧ (dvl 0 l < 1 ∨ 1000 ≤ dvl 0 l)):=by
  cases ha:(l.dropWhile (· == 48)).all dgt with
  | false=>exact .inr (.inl rfl)
  | true =>
    have hv:=dvl_zeros l
    have hal:=all_zeros l
    cases hd:l.dropWhile (· == 48) with
    | nil =>
      rw [hd] at hv
      exact .inr (.inr ⟨fun v e=>(by unfold Lib.atoiAll at e; cases e),.inl (by rw [← hv]; exact Nat.zero_lt_one)⟩)
    | cons c r =>
      have h48:=drop_head _ _ _ _ hd
      rw [hd] at ha hv hal
      have hc:dgt c = true:=by rw [List.all_cons,Bool.and_eq_true] at ha; exact ha.1
      have hb:=dgt_b hc
      have hne:c.toNat ≠ 48:=by
        intro e
        have:c = 48:=UInt8.toNat_inj.1 e
        rw [this] at h48; cases h48
      have hge:1 ≤ dvl 0 (c :: r):=by
        have:=dvl_ge r (10 * 0 + (c.toNat - 48))
        show 1 ≤ dvl (10 * 0 + (c.toNat - 48)) r
        omega
      have hp:Lib.atoiAll (c :: r) = if dvl 0 (c :: r) < 9223372036854775808 then .ok ((dvl 0 (c :: r):Nat):Int) else .range:=by
        unfold Lib.atoiAll Lib.parseMag
        simp only
        rw [if_neg (by omega:¬ (c.toNat = 43 ∨ c.toNat = 45)),if_neg (by simp),parse_all _ 0 ha (by omega)]
        by_cases h1:dvl 0 (c :: r) < 18446744073709551616
        · rw [if_pos h1]
          simp only
          by_cases h2:dvl 0 (c :: r) < 9223372036854775808
          · rw [if_neg (by omega),if_neg (by omega),if_neg (by omega),if_pos h2]
          · rw [if_pos (by omega),if_neg h2]
        · rw [if_neg h1,if_neg (by omega)]
      rw [hp]
      by_cases h2:dvl 0 (c :: r) < 9223372036854775808
      · rw [if_pos h2]
        exact .inl ⟨_,hge,rfl,by rw [← hal]; exact ha,hv.symm⟩
      · rw [if_neg h2]
        exact .inr (.inr ⟨fun v e=>(by cases e),.inr (by omega)⟩)
theorem u8_all (p:UInt8 → Bool) (h:((List.range 256).all fun n=>p (UInt8.ofNat n)) = true) (c:UInt8):p c = true:=by
  have:=List.all_eq_true.1 h c.toNat (List.mem_range.2 c.toNat_lt)
  simpa using this
def cs10:BS:=[48,49,50,51,52,53,54,55,56,57]
theorem cs10_dgt (c:UInt8):cs10.contains c = dgt c:=by
  have key:=u8_all (fun c=>cs10.contains c == dgt c) (by decide +kernel)
  exact beq_iff_eq.1 (key c)
theorem trimS_nil (l cs:BS):Lib.trimS l cs = [] ↔ l.all cs.contains = true:=by
  unfold Lib.trimS Lib.trimLeftS Lib.trimRightS
  rw [drop_all]
  constructor
  · intro h
    have h1:(l.reverse.dropWhile (cs.contains ·)) = []:=by
      cases hd:l.reverse.dropWhile (cs.contains ·) with
      | nil=>rfl
      | cons c r =>
        have hc:=drop_head _ _ _ _ hd
        rw [hd] at h
        rw [List.all_eq_true] at h
        have:=h c (by simp)
        rw [this] at hc; cases hc
    rw [drop_all,List.all_reverse] at h1
    exact h1
  · intro h
    have h1:(l.reverse.dropWhile (cs.contains ·)) = []:=by rw [drop_all,List.all_reverse]; exact h
    rw [h1]; rfl
theorem trim10 (l:BS):Lib.trimS l cs10 = [] ↔ l.all dgt = true:=by
  rw [trimS_nil,show cs10.contains = dgt from funext cs10_dgt]
def isBl (c:UInt8):Bool:=c == 32 || c == 10
def isDel (c:UInt8):Bool:=c == 32 || c == 10 || c == 44 || c == 47
theorem csBl (c:UInt8):([32,10]:BS).contains c = isBl c:=by
  have key:=u8_all (fun c=>([32,10]:BS).contains c == isBl c) (by decide +kernel)
  exact beq_iff_eq.1 (key c)
theorem csDel (c:UInt8):([32,10,44,47]:BS).contains c = isDel c:=by
  have key:=u8_all (fun c=>([32,10,44,47]:BS).contains c == isDel c) (by decide +kernel)
  exact beq_iff_eq.1 (key c)
def skB (l:BS):BS:=l.dropWhile isBl
theorem trimLeft_bl (l:BS):Lib.trimLeftS l [32,10] = skB l:=by
  unfold Lib.trimLeftS skB
  rw [show (fun c:UInt8=>([32,10]:BS).contains c) = isBl from funext csBl]
def tokL (l:BS):BS:=l.takeWhile fun c=>!isDel c
def rstL (l:BS):BS:=l.dropWhile fun c=>!isDel c
theorem tok_app (l:BS):tokL l ++ rstL l = l:=List.takeWhile_append_dropWhile
theorem indexAny_del:∀ l:BS,Lib.indexAny (l ++ [32]) [32,10,44,47] = ((tokL l).length:Int)
  | []=>rfl
  | c :: r=>by
    have ih:=indexAny_del r
    show (if ([32,10,44,47]:BS).contains c then (0:Int) else if Lib.indexAny (r ++ [32]) [32,10,44,47] == -1 then -1 else Lib.indexAny (r ++ [32]) [32,10,44,47] + 1) = _
    rw [csDel,ih]
    unfold tokL
    rw [List.takeWhile_cons]
    cases isDel c with
    | true=>rfl
    | false =>
      rw [if_neg (by simp),if_neg (by rw [beq_iff_eq]; omega)]
      simp [tokL]
theorem take_tok (l:BS):l.take (tokL l).length = tokL l:=by
  have h:=congrArg (List.take (tokL l).length) (tok_app l)
  rw [List.take_left] at h
  exact h.symm
theorem drop_tok (l:BS):l.drop (tokL l).length = rstL l:=by
  have h:=congrArg (List.drop (tokL l).length) (tok_app l)
  rw [List.drop_left] at h
  exact h.symm
def nStar (c:UInt8):Bool:=!(c == 42)
theorem index_star:∀ l:BS,Lib.index l [42] = match l.dropWhile nStar with | []=>-1 | _ :: _=>((l.takeWhile nStar).length:Int)
  | []=>rfl
  | c :: r=>by
    have ih:=index_star r
    unfold Lib.index
    rw [List.dropWhile_cons,List.takeWhile_cons]
    cases hc:c == 42 with
    | true =>
      have:c = 42:=beq_iff_eq.1 hc
      subst this
      simp [nStar,List.isPrefixOf]
    | false =>
      have h1:([42]:BS).isPrefixOf (c :: r) = false:=by
        simp only [List.isPrefixOf,Bool.and_true]
        rw [beq_eq_false_iff_ne] at hc ⊢
        exact fun e=>hc e.symm
      have h2:nStar c = true:=by unfold nStar; rw [hc]; rfl
      rw [h1,h2,ih]
      simp only [if_true,Bool.false_eq_true,if_false]
      cases r.dropWhile nStar with
      | nil=>rfl
      | cons x y =>
        simp only
        rw [if_neg (by rw [beq_iff_eq]; omega),List.length_cons]
        omega
theorem cut_star (l:BS):Lib.cut l [42] = match l.dropWhile nStar with | []=>(l,[],false) | _ :: y=>(l.takeWhile nStar,y,true):=by
  unfold Lib.cut
  rw [index_star]
  have happ:l.takeWhile nStar ++ l.dropWhile nStar = l:=List.takeWhile_append_dropWhile
  cases hd:l.dropWhile nStar with
  | nil=>rfl
  | cons x y =>
    simp only
    rw [if_pos (by omega),Int.toNat_natCast]
    rw [hd] at happ
    have e1:l.take (l.takeWhile nStar).length = l.takeWhile nStar:=by
      have h:=congrArg (List.take (l.takeWhile nStar).length) happ
      rw [List.take_left] at h; exact h.symm
    have e2:l.drop ((l.takeWhile nStar).length + 1) = y:=by
      have h:=congrArg (List.drop ((l.takeWhile nStar).length + 1)) happ
      rw [← List.drop_drop,List.drop_left] at h
      exact h.symm
    rw [e1]
    show (_,l.drop ((l.takeWhile nStar).length + 1),true) = _
    rw [e2]
end Go.Q
namespace Go.Q
open Go
set_option maxRecDepth 100000
set_option maxHeartbeats 4000000
theorem bifT {ρ:Type} {x:Bool} {A B r:Option ρ} (hx:x = true) (h:A = r):(bif x then A else B) = r:=by subst hx; exact h
theorem bifF {ρ:Type} {x:Bool} {A B r:Option ρ} (hx:x = false) (h:B = r):(bif x then A else B) = r:=by subst hx; exact h
theorem bt_app (p:BS) (c:UInt8) (r:BS):bt (B (p ++ c :: r)) (p.length:Int) = ((c.toNat:Nat):Int):=by
  show (((p ++ c :: r).getD p.length 0).toNat:Int) = _
  rw [List.getD_eq_getElem?_getD,List.getElem?_append_right (Nat.le_refl _),Nat.sub_self]; rfl
theorem size_app (p d:BS):((B (p ++ d)).size:Int) = ((p.length + d.length:Nat):Int):=by rw [size_B,List.length_append]
theorem nI_app (p:BS) (c:UInt8) (r:BS):(nI (p ++ c :: r))[p.length]? = some ((c.toNat:Nat):Int):=by
  unfold nI; rw [List.getElem?_map,List.getElem?_append_right (Nat.le_refl _),Nat.sub_self]; rfl
theorem succ_len (p:BS) (c:UInt8) (h:p.length < 2 ^ 40):IntKind.i64.wrap ((p.length:Int) + (1:Int)) = (((p ++ [c]).length:Nat):Int):=by
  rw [w64n (by omega) (by omega),List.length_append,List.length_singleton]; omega
theorem app_c (p:BS) (c:UInt8) (r:BS):p ++ c :: r = (p ++ [c]) ++ r:=by simp
def okT (c:UInt8):Bool:=c == 10 || (!(decide ((c.toNat:Int) < 32)) && !(decide ((c.toNat:Int) > 126)))
def isTxt (l:BS):Bool:=l.all okT && decide (l.length ≤ 8000)
theorem okT_asc {c:UInt8} (h:okT c = true):c.toNat < 128:=by
  unfold okT at h
  rw [Bool.or_eq_true,beq_iff_eq,Bool.and_eq_true] at h
  rcases h with h | ⟨_,h⟩
  · subst h; decide
  · rw [Bool.not_eq_true',decide_eq_false_iff_not] at h; omega
theorem ne10 (c:UInt8):(((c.toNat:Nat):Int) != (10:Int)) = !(c == 10):=by
  have h:=beq_u8 c 10 (by decide)
  unfold bne
  exact congrArg not h
theorem ptext_l0:∀ (d p:BS),(p ++ d).length < 2 ^ 40 → Lst.isText.l0 (B (p ++ d)) (nI (p ++ d)) ((p ++ d).length:Int) (p.length:Int) = some (d.all okT && decide ((p ++ d).length ≤ 8000))
  | [],p,hl=>by
    unfold Lst.isText.l0
    refine loopO_end ?_
    show Lst.isText.s0 _ _ _ _ = _
    unfold Lst.isText.s0
    refine letF (decide_eq_false (by rw [List.append_nil]; omega)) ?_
    rw [show decide ((p ++ ([]:BS)).length ≤ 8000) = decide (((B (p ++ ([]:BS))).size:Int) ≤ 8000) by rw [decide_eq_decide,size_B]; omega]
    rfl
  | c :: r,p,hl=>by
    have hl2:p.length < 2 ^ 40:=by rw [List.length_append] at hl; omega
    have ih:=ptext_l0 r (p ++ [c]) (by rw [← app_c]; exact hl)
    rw [← app_c] at ih
    have start:∀ {x},(letk (((c.toNat:Nat):Int) != (10:Int)) fun t13 =>
      bif t13 then
      letk (decide (((c.toNat:Nat):Int) < (32:Int))) fun t16 =>
      bif t16 then some (.inr false) else
        letk (decide (((c.toNat:Nat):Int) > (126:Int))) fun t19 =>
        bif t19 then some (.inr false) else
          letk (IntKind.i64.wrap ((p.length:Int) + (1:Int))) fun t22_1=>some (.inl t22_1)
      else letk (IntKind.i64.wrap ((p.length:Int) + (1:Int))) fun t22=>some (.inl t22)) = x → Lst.isText.s0 (B (p ++ c :: r)) (nI (p ++ c :: r)) ((p ++ c :: r).length:Int) (p.length:Int) = x:=by
      intro x h
      unfold Lst.isText.s0
      refine letT (decide_eq_true (by rw [List.length_append,List.length_cons]; omega)) (chkE ⟨by omega,by rw [nI_len,List.length_append,List.length_cons]; omega⟩ (letV rfl (bindE ?_ h)))
      rw [Nat.zero_add,Int.toNat_natCast]
      exact nI_app p c r
    have next:Lst.isText.s0 (B (p ++ c :: r)) (nI (p ++ c :: r)) ((p ++ c :: r).length:Int) (p.length:Int) = some (.inl ((p ++ [c]).length:Int)) → Lst.isText.l0 (B (p ++ c :: r)) (nI (p ++ c :: r)) ((p ++ c :: r).length:Int) (p.length:Int) = some (r.all okT && decide ((p ++ c :: r).length ≤ 8000)):=fun h=>loopO_next h ih
    have stop:Lst.isText.s0 (B (p ++ c :: r)) (nI (p ++ c :: r)) ((p ++ c :: r).length:Int) (p.length:Int) = some (.inr false) → Lst.isText.l0 (B (p ++ c :: r)) (nI (p ++ c :: r)) ((p ++ c :: r).length:Int) (p.length:Int) = some false:=fun h=>loopO_end h
    rw [List.all_cons]
    unfold okT
    cases h10:c == 10 with
    | true=>exact next (start (letF (by rw [ne10,h10]; rfl) (letV (succ_len p c hl2) rfl)))
    | false =>
      by_cases h1:((c.toNat:Nat):Int) < 32
      · rw [decide_eq_true h1]
        exact stop (start (letT (by rw [ne10,h10]; rfl) (letT (decide_eq_true h1) rfl)))
      · rw [decide_eq_false h1]
        by_cases h2:((c.toNat:Nat):Int) > 126
        · rw [decide_eq_true h2]
          exact stop (start (letT (by rw [ne10,h10]; rfl) (letF (decide_eq_false h1) (letT (decide_eq_true h2) rfl))))
        · rw [decide_eq_false h2]
          exact next (start (letT (by rw [ne10,h10]; rfl) (letF (decide_eq_false h1) (letF (decide_eq_false h2) (letV (succ_len p c hl2) rfl)))))
theorem ptext_eq (l:BS) (hl:l.length < 2 ^ 40):Lst.isText (B l) = some (isTxt l):=by
  unfold Lst.isText
  refine letV (bytesI_nI l) (letV (by rw [nI_len]) ?_)
  exact ptext_l0 l [] hl
theorem rtext_l0:∀ (d p:BS),(p ++ d).length < 2 ^ 40 → Ref15.IsText.l0 (B (p ++ d)) (p.length:Int) = some (d.all okT && decide ((p ++ d).length ≤ 8000))
  | [],p,hl=>by
    unfold Ref15.IsText.l0
    refine loopO_end ?_
    show Ref15.IsText.s0 _ _ = _
    unfold Ref15.IsText.s0
    refine letV rfl (letF (decide_eq_false (by rw [List.append_nil,size_B]; omega)) ?_)
    rw [show decide ((p ++ ([]:BS)).length ≤ 8000) = decide (((B (p ++ ([]:BS))).size:Int) ≤ 8000) by rw [decide_eq_decide,size_B]; omega]
    rfl
  | c :: r,p,hl=>by
    have hl2:p.length < 2 ^ 40:=by rw [List.length_append] at hl; omega
    have ih:=rtext_l0 r (p ++ [c]) (by rw [← app_c]; exact hl)
    rw [← app_c] at ih
    have hin:0 ≤ (p.length:Int) ∧ (p.length:Int) < ((B (p ++ c :: r)).size:Int):=⟨by omega,by rw [size_app,List.length_cons]; omega⟩
    have next:Ref15.IsText.s0 (B (p ++ c :: r)) (p.length:Int) = some (.inl ((p ++ [c]).length:Int)) → Ref15.IsText.l0 (B (p ++ c :: r)) (p.length:Int) = some (r.all okT && decide ((p ++ c :: r).length ≤ 8000)):=fun h=>loopO_next h ih
    have stop:Ref15.IsText.s0 (B (p ++ c :: r)) (p.length:Int) = some (.inr false) → Ref15.IsText.l0 (B (p ++ c :: r)) (p.length:Int) = some false:=fun h=>loopO_end h
    have start:∀ {x},(letk (((c.toNat:Nat):Int) != (10:Int)) fun t13 =>
      bif t13 then
      letk (decide (((c.toNat:Nat):Int) < (32:Int))) fun t16 =>
      bif t16 then some (.inr false) else
        letk (decide (((c.toNat:Nat):Int) > (126:Int))) fun t19 =>
        bif t19 then some (.inr false) else
          letk (IntKind.i64.wrap ((p.length:Int) + (1:Int))) fun t22_1=>some (.inl t22_1)
      else letk (IntKind.i64.wrap ((p.length:Int) + (1:Int))) fun t22=>some (.inl t22)) = x → Ref15.IsText.s0 (B (p ++ c :: r)) (p.length:Int) = x:=by
      intro x h
      unfold Ref15.IsText.s0
      refine letV rfl (letT (decide_eq_true hin.2) (chkE hin (letV (bt_app p c r) ?_)))
      rw [chk_pos hin,chk_pos hin,bt_app]
      exact h
    rw [List.all_cons]
    unfold okT
    cases h10:c == 10 with
    | true=>exact next (start (letF (by rw [ne10,h10]; rfl) (letV (succ_len p c hl2) rfl)))
    | false =>
      by_cases h1:((c.toNat:Nat):Int) < 32
      · rw [decide_eq_true h1]
        exact stop (start (letT (by rw [ne10,h10]; rfl) (letT (decide_eq_true h1) rfl)))
      · rw [decide_eq_false h1]
        by_cases h2:((c.toNat:Nat):Int) > 126
        · rw [decide_eq_true h2]
          exact stop (start (letT (by rw [ne10,h10]; rfl) (letF (decide_eq_false h1) (letT (decide_eq_true h2) rfl))))
        · rw [decide_eq_false h2]
          exact next (start (letT (by rw [ne10,h10]; rfl) (letF (decide_eq_false h1) (letF (decide_eq_false h2) (letV (succ_len p c hl2) rfl)))))
theorem rtext_eq (l:BS) (hl:l.length < 2 ^ 40):Ref15.IsText (B l) = some (isTxt l):=by
  unfold Ref15.IsText
  exact rtext_l0 l [] hl
def Good (l:BS):Prop:=l.all okT = true ∧ l.length ≤ 8000
theorem Good.drop {l:BS} (h:Good l) (p:UInt8 → Bool):Good (l.dropWhile p):=by
  refine ⟨?_,Nat.le_trans ((List.dropWhile_suffix p).length_le) h.2⟩
  rw [List.all_eq_true]
  exact fun x hx=>List.all_eq_true.1 h.1 x ((List.dropWhile_suffix p).mem hx)
theorem Good.tail {c:UInt8} {l:BS} (h:Good (c :: l)):Good l:=by
  refine ⟨?_,by have:=h.2; rw [List.length_cons] at this; omega⟩
  have:=h.1
  rw [List.all_cons,Bool.and_eq_true] at this
  exact this.2
def hasC (c:UInt8):BS → Bool | d :: _=>d == c | []=>false
def cmD:BS → BS | d :: r=>if d == 44 then r else d :: r | []=>[]
theorem hasC_cons (c d:UInt8) (r:BS):hasC c (d :: r) = (d == c):=rfl
theorem cmD_cons (d:UInt8) (r:BS):cmD (d :: r) = if d == 44 then r else d :: r:=rfl
theorem hasPre (l:BS) (c:UInt8):Slite.HasPrefix (B l) ⟨#[c]⟩ = some (hasC c l):=by
  unfold Slite.HasPrefix
  have h1:(((⟨#[c]⟩:ByteArray)).size:Int) = 1:=rfl
  refine letV rfl (letV h1 ?_)
  cases l with
  | nil=>exact letF (decide_eq_false (by rw [size_B]; exact (by decide))) rfl
  | cons d r =>
    refine letT (decide_eq_true (by rw [size_B,List.length_cons]; omega)) (letV h1 (chkE ⟨by omega,by rw [size_B,List.length_cons]; omega⟩ (letV (show (B (d :: r)).extract 0 (1:Int).toNat = B [d] from ext_B _ _) (letV ?_ rfl))))
    rw [eqL,L_B]
    show ([d] == [c]) = (d == c)
    rw [Bool.eq_iff_iff,beq_iff_eq,beq_iff_eq]
    simp
theorem hasPre2 (l:BS) (c:UInt8):Strs.HasPrefix (B l) ⟨#[c]⟩ = some (hasC c l):=by
  unfold Strs.HasPrefix
  exact bindE (hasPre l c) rfl
theorem cutPre (l:BS):Strs.CutPrefix (B l) ⟨#[44]⟩ = some (B (cmD l),hasC 44 l):=by
  unfold Strs.CutPrefix
  have h:Slite.CutPrefix (B l) ⟨#[44]⟩ = some (B (cmD l),hasC 44 l):=by
    unfold Slite.CutPrefix
    refine bindE (hasPre l 44) ?_
    cases l with
    | nil=>exact letT rfl rfl
    | cons d r =>
      rw [hasC_cons,cmD_cons]
      cases hd:d == 44 with
      | false=>rw [if_neg (by simp)]; exact letT rfl rfl
      | true =>
        rw [if_pos rfl]
        refine letF rfl (letV (show _ = (1:Int) from rfl) (chkE ⟨by omega,by rw [size_B,List.length_cons]; omega⟩ (letV (show (B (d :: r)).extract (1:Int).toNat (B (d :: r)).size = B r from ext_D _ _) rfl)))
  exact bindE h rfl
theorem skB_idem (l:BS):skB (skB l) = skB l:=by
  unfold skB
  cases h:l.dropWhile isBl with
  | nil=>rfl
  | cons c r=>rw [List.dropWhile_cons,drop_head _ _ _ _ h]; rfl
theorem Good.sk {l:BS} (h:Good l):Good (skB l):=h.drop _
theorem Good.rst {l:BS} (h:Good l):Good (rstL l):=h.drop _
theorem Good.cm {l:BS} (h:Good l):Good (cmD l):=by
  cases l with
  | nil=>exact h
  | cons c r =>
    rw [cmD_cons]
    split
    · exact h.tail
    · exact h
theorem asc2:Asc ⟨#[32,10]⟩:=fun j b h=>by
  have:b ∈ ([32,10]:BS):=List.mem_of_getElem? h
  simp only [List.mem_cons,List.not_mem_nil,or_false] at this
  rcases this with rfl | rfl <;> decide
theorem asc4:Asc ⟨#[32,10,44,47]⟩:=fun j b h=>by
  have:b ∈ ([32,10,44,47]:BS):=List.mem_of_getElem? h
  simp only [List.mem_cons,List.not_mem_nil,or_false] at this
  rcases this with rfl | rfl | rfl | rfl <;> decide
theorem asc1:Asc ⟨#[48]⟩:=fun j b h=>by
  have:b ∈ ([48]:BS):=List.mem_of_getElem? h
  simp only [List.mem_cons,List.not_mem_nil,or_false] at this
  subst this; decide
theorem asc10:Asc ⟨#[48,49,50,51,52,53,54,55,56,57]⟩:=fun j b h=>by
  have:b ∈ cs10:=List.mem_of_getElem? h
  have:dgt b = true:=by rw [← cs10_dgt]; exact List.contains_iff_mem.2 this
  have:=dgt_b this
  omega
theorem blanks_p (l:BS):Lst.reader.blanks (B l) = some (B (skB l)):=by
  unfold Lst.reader.blanks
  refine bindE (a:=B (skB l)) ?_ rfl
  unfold Strs.TrimLeft
  exact chkE ⟨by decide,asc2⟩ (by rw [L_B]; exact congrArg some (congrArg B (trimLeft_bl l)))
theorem ended_p (l:BS):Lst.reader.ended (B l) = some (B (skB l),skB l == [],hasC 47 (skB l)):=by
  unfold Lst.reader.ended
  refine bindE (blanks_p l) (letV (y:=skB l == []) ?_ (bindE (hasPre2 _ _) rfl))
  rw [eqL,L_B]; rfl
theorem comma_p (l:BS):Lst.reader.comma (B l) = some (B (cmD (skB l)),hasC 44 (skB l)):=by
  unfold Lst.reader.comma
  exact bindE (blanks_p l) (bindE (cutPre _) rfl)
def repS (s:BS):Option (Nat × BS):=match s.dropWhile nStar with
  | []=>some (1,s)
  | _ :: y=>if (s.takeWhile nStar).all dgt = true ∧ 1 ≤ dvl 0 (s.takeWhile nStar) ∧ dvl 0 (s.takeWhile nStar) ≤ 999 then some (dvl 0 (s.takeWhile nStar),y) else none
def itS:Option (Nat × BS) → listing.item × Int
  | some (n,y)=>(⟨n,B y⟩,0)
  | none=>(⟨0,⟨#[]⟩⟩,3)
theorem hasC_tok {q:BS} (h:hasC 44 q = true):tokL q = [] ∧ rstL q = q:=by
  cases q with
  | nil=>cases h
  | cons c r =>
    have:c = 44:=beq_iff_eq.1 h
    subst this
    exact ⟨rfl,rfl⟩
theorem Good.tok {l:BS} (h:Good l):(tokL l).length ≤ 8000:=by
  have:=congrArg List.length (tok_app l)
  rw [List.length_append] at this
  have:=h.2
  omega
theorem atoi_run (d:BS) (h:d.length ≤ 8000):(∃ v:Int,Lib.atoiAll d = .ok v ∧ Strconv.Atoi (B d) = some (v,true)) ∨ ((∀ v,Lib.atoiAll d ≠ .ok v) ∧ ∃ v,Strconv.Atoi (B d) = some (v,false)):=by
  unfold Strconv.Atoi
  rw [chk_pos (by rw [size_B]; omega),L_B]
  cases hv:Lib.atoiAll d with
  | ok v=>exact .inl ⟨v,rfl,rfl⟩
  | _=>exact .inr ⟨fun v e=>(by cases e),_,rfl⟩
theorem nextT (q:BS) (hg:Good q) (hq:skB q = q):Lst.reader.next_ (B q) = some (B (cmD (skB (rstL q))),(itS (repS (tokL q))).1,(itS (repS (tokL q))).2):=by
  unfold Lst.reader.next_
  have hc:=comma_p q
  rw [hq] at hc
  refine bindE hc ?_
  cases hh:hasC 44 q with
  | true =>
    obtain ⟨h1,h2⟩:=hasC_tok hh
    rw [h1,h2,hq]
    rfl
  | false =>
    have hcm:cmD q = q:=by
      cases q with
      | nil=>rfl
      | cons c r =>
        have:(c == 44) = false:=hh
        rw [cmD_cons,if_neg (by rw [this]; simp)]
    rw [hcm]
    have hlen:=hg.2
    have htk:=hg.tok
    have hix:Strs.IndexAny (B (q ++ [32])) ⟨#[32,10,44,47]⟩ = some (((tokL q).length:Nat):Int):=by
      unfold Strs.IndexAny
      refine chkE ⟨?_,by decide,?_,asc4⟩ ?_
      · rw [size_B,List.length_append,List.length_singleton]; omega
      · intro j b hb
        have:b ∈ q ++ [32]:=List.mem_of_getElem? hb
        rcases List.mem_append.1 this with h | h
        · exact okT_asc (List.all_eq_true.1 hg.1 _ h)
        · rw [List.mem_singleton.1 h]; decide
      · rw [L_B]; exact congrArg some (indexAny_del q)
    have hle:(tokL q).length ≤ q.length:=by
      have:=congrArg List.length (tok_app q)
      rw [List.length_append] at this
      omega
    have hin:0 ≤ (((tokL q).length:Nat):Int) ∧ (((tokL q).length:Nat):Int) ≤ ((B q).size:Int):=⟨by omega,by rw [size_B]; omega⟩
    have e1:(B q).extract 0 (((tokL q).length:Nat):Int).toNat = B (tokL q):=by
      rw [Int.toNat_natCast,ext_B,L_B,take_tok]
    have e2:(B q).extract (((tokL q).length:Nat):Int).toNat (B q).size = B (rstL q):=by
      rw [Int.toNat_natCast,ext_D,L_B,drop_tok]
    refine bifF rfl (chkE ?_ (letV (show _ = B (q ++ [32]) from B_appR q [32]) (bindE hix (chkE hin (letV e1 (chkE hin (letV e2 (bindE (comma_p _) ?_))))))))
    · show (((q.length + 1:Nat)):Int) ≤ _
      omega
    have hct:Strs.Cut (B (tokL q)) ⟨#[42]⟩ = some (B (Lib.cut (tokL q) [42]).1,B (Lib.cut (tokL q) [42]).2.1,(Lib.cut (tokL q) [42]).2.2):=by
      unfold Strs.Cut
      exact chkE (by rw [size_B]; omega) (by rw [L_B]; rfl)
    refine bindE hct ?_
    rw [cut_star]
    unfold repS
    cases hd:(tokL q).dropWhile nStar with
    | nil=>exact letT rfl rfl
    | cons z y =>
      have htl:(List.takeWhile nStar (tokL q)).length ≤ 8000:=Nat.le_trans ((List.takeWhile_prefix _).length_le) htk
      generalize List.takeWhile nStar (tokL q) = m at htl
      refine letF rfl ?_
      have htz:Strs.TrimLeft (B m) ⟨#[48]⟩ = some (B (m.dropWhile (· == 48))):=by
        unfold Strs.TrimLeft
        refine chkE ⟨by decide,asc1⟩ ?_
        rw [L_B]
        unfold Lib.trimLeftS
        refine congrArg some (congrArg B (congrArg (fun f=>List.dropWhile f m) (funext fun c=>?_)))
        show ([48]:BS).contains c = _
        simp [List.contains,List.elem]
        cases c == 48 <;> rfl
      refine bindE htz ?_
      have hdl:(m.dropWhile (· == 48)).length ≤ 8000:=Nat.le_trans ((List.dropWhile_suffix _).length_le) htl
      have htr:∃ t,Strs.Trim (B (m.dropWhile (· == 48))) ⟨#[48,49,50,51,52,53,54,55,56,57]⟩ = some (B t) ∧ (t = [] ↔ m.all dgt = true):=by
        refine ⟨Lib.trimS (m.dropWhile (· == 48)) cs10,?_,by rw [trim10,all_zeros]⟩
        unfold Strs.Trim
        exact chkE ⟨by rw [size_B]; omega,by decide,asc10⟩ (by rw [L_B]; rfl)
      obtain ⟨t,ht,ht2⟩:=htr
      simp only [List.length_cons]
      rcases atoi_run (m.dropWhile (· == 48)) hdl with ⟨v,hv,hrun⟩ | ⟨hv,v,hrun⟩
      · refine bindE hrun (bifT rfl (bindE ht ?_))
        by_cases hnil:t = []
        · have ha:=ht2.1 hnil
          subst hnil
          refine letF (by rw [eqL]; rfl) ?_
          rcases atoi_zeros m with ⟨u,hu1,hu2,hu3,hu4⟩ | h | ⟨h,_⟩
          · rw [hv] at hu2
            injection hu2 with hu2
            subst hu2
            rw [hu4]
            refine letF (decide_eq_false (by omega)) ?_
            by_cases h9:u ≤ 999
            · rw [if_pos ⟨ha,hu1,h9⟩]
              exact letV (decide_eq_false (by omega)) rfl
            · rw [if_neg (by omega)]
              exact letV (decide_eq_true (by omega)) rfl
          · rw [all_zeros] at h; rw [h] at ha; cases ha
          · exact absurd hv (h v)
        · rw [if_neg (fun h=>hnil (ht2.2 h.1))]
          refine letT ?_ rfl
          rw [eqL]
          cases t with
          | nil=>exact absurd rfl hnil
          | cons=>rfl
      · refine bindE hrun (bifF rfl ?_)
        rw [if_neg ?_]
        · rfl
        · intro ⟨h1,h2,h3⟩
          rcases atoi_zeros m with ⟨u,_,hu2,_⟩ | h | ⟨_,h⟩
          · exact hv _ hu2
          · rw [all_zeros] at h; rw [h] at h1; cases h1
          · omega
end Go.Q
namespace Go.Q
open Go
set_option maxRecDepth 100000
set_option maxHeartbeats 4000000
theorem isBl_c (c:UInt8):isBl c = (c == 32 || c == 10):=rfl
theorem rblanks:∀ (d p:BS) (b:Bool) (m:Int) (t:ByteArray) (c:Bool),(p ++ d).length < 2 ^ 40 →
    Ref15.reader.blanks (B (p ++ d)) (p.length:Int) b m t c = some (B (p ++ d),(((p ++ d.takeWhile isBl).length:Nat):Int),b,m,t,c)
  | [],p,b,m,t,c,hl=>by
    unfold Ref15.reader.blanks Ref15.reader.blanks.l0
    rw [show (p ++ List.takeWhile isBl []) = p from List.append_nil _]
    refine loopO_end ?_
    show Ref15.reader.blanks.s0 (B (p ++ [])) (p.length:Int) b m t c = _
    unfold Ref15.reader.blanks.s0
    exact letV rfl (letF (decide_eq_false (by rw [List.append_nil,size_B]; omega)) rfl)
  | x :: r,p,b,m,t,c,hl=>by
    have hl2:p.length < 2 ^ 40:=by rw [List.length_append] at hl; omega
    have hin:0 ≤ (p.length:Int) ∧ (p.length:Int) < ((B (p ++ x :: r)).size:Int):=⟨by omega,by rw [size_app,List.length_cons]; omega⟩
    have ih:=rblanks r (p ++ [x]) b m t c (by rw [← app_c]; exact hl)
    rw [← app_c] at ih
    have next:Ref15.reader.blanks.s0 (B (p ++ x :: r)) (p.length:Int) b m t c = some (.inl (B (p ++ x :: r),((p ++ [x]).length:Int),b,m,t,c)) →
        Ref15.reader.blanks (B (p ++ x :: r)) (p.length:Int) b m t c = some (B (p ++ x :: r),(((p ++ [x] ++ r.takeWhile isBl).length:Nat):Int),b,m,t,c):=fun h=>loopO_next h ih
    have j0:Ref15.reader.blanks.j0 (B (p ++ x :: r)) (p.length:Int) b m t c = some (.inl (B (p ++ x :: r),((p ++ [x]).length:Int),b,m,t,c)):=by
      unfold Ref15.reader.blanks.j0
      exact letV (succ_len p x hl2) rfl
    have hB:=bt_app p x r
    rw [List.takeWhile_cons,isBl_c]
    cases h1:x == 32 with
    | true =>
      rw [Bool.true_or,if_pos rfl,app_c p x (r.takeWhile isBl)]
      refine next ?_
      unfold Ref15.reader.blanks.s0
      exact letV rfl (letT (decide_eq_true hin.2) (chkE hin (letV hB (letT (by rw [show (32:Int) = ((32:Nat):Int) from rfl,beq_u8 _ _ (by decide)]; exact h1) j0))))
    | false =>
      have e1:(((x.toNat:Nat):Int) == (32:Int)) = false:=by rw [show (32:Int) = ((32:Nat):Int) from rfl,beq_u8 _ _ (by decide)]; exact h1
      cases h2:x == 10 with
      | true =>
        rw [Bool.or_true,if_pos rfl,app_c p x (r.takeWhile isBl)]
        refine next ?_
        unfold Ref15.reader.blanks.s0
        exact letV rfl (letT (decide_eq_true hin.2) (chkE hin (letV hB (letF e1 (chkE hin (letV hB (letT (by rw [show (10:Int) = ((10:Nat):Int) from rfl,beq_u8 _ _ (by decide)]; exact h2) j0)))))))
      | false =>
        rw [Bool.or_false,if_neg (by simp),List.append_nil]
        unfold Ref15.reader.blanks Ref15.reader.blanks.l0
        refine loopO_end ?_
        show Ref15.reader.blanks.s0 (B (p ++ x :: r)) (p.length:Int) b m t c = _
        unfold Ref15.reader.blanks.s0
        exact letV rfl (letT (decide_eq_true hin.2) (chkE hin (letV hB (letF e1 (chkE hin (letV hB (letF (by rw [show (10:Int) = ((10:Nat):Int) from rfl,beq_u8 _ _ (by decide)]; exact h2) rfl)))))))
theorem digit_eq (c:UInt8):Ref15.digit ((c.toNat:Nat):Int) = some (dgt c):=by
  unfold Ref15.digit dgt
  by_cases h1:48 ≤ c.toNat
  · refine letT (decide_eq_true (by omega)) (letV rfl ?_)
    rw [decide_eq_true h1,Bool.true_and]
    exact congrArg some (by rw [decide_eq_decide]; omega)
  · rw [decide_eq_false h1]
    exact letF (decide_eq_false (by omega)) rfl
theorem digit_val {c:UInt8} (h:dgt c = true):IntKind.i64.wrap (IntKind.u8.wrap (((c.toNat:Nat):Int) - 48)) = ((c.toNat - 48:Nat):Int):=by
  have hb:=dgt_b h
  have h1:IntKind.u8.wrap (((c.toNat:Nat):Int) - 48) = ((c.toNat - 48:Nat):Int):=by
    have:(((c.toNat:Nat):Int) - 48) = ((c.toNat - 48:Nat):Int):=by omega
    rw [this]
    show ((c.toNat - 48:Nat):Int) % 256 = _
    omega
  rw [h1,w64n (by omega) (by omega)]
theorem reps_l0 (T t:ByteArray) (at_:Int) (b:Bool) (y:BS):∀ (r a:BS) (v:Nat),(a ++ (r ++ 42 :: y)).length < 2 ^ 40 →
    Ref15.reader.repeats.l0 (B (a ++ (r ++ 42 :: y))) (((a ++ r).length:Nat):Int) T at_ b 1 t false ((min v 1000:Nat):Int) (a.length:Int) =
      some (if r.all dgt = true ∧ 1 ≤ dvl v r ∧ dvl v r ≤ 999 then (T,at_,b,((dvl v r:Nat):Int),B y,false) else (T,at_,b,1,t,true))
  | [],a,v,hl=>by
    unfold Ref15.reader.repeats.l0
    refine loopO_end ?_
    show Ref15.reader.repeats.s0 (B (a ++ ([] ++ 42 :: y))) (((a ++ []).length:Nat):Int) T at_ b 1 t false ((min v 1000:Nat):Int) (a.length:Int) = _
    unfold Ref15.reader.repeats.s0
    rw [List.append_nil]
    refine letF (decide_eq_false (by omega)) ?_
    refine congrArg (Option.map Sum.inr) (a₂:=some (if ([]:BS).all dgt = true ∧ 1 ≤ dvl v [] ∧ dvl v [] ≤ 999 then (T,at_,b,((dvl v []:Nat):Int),B y,false) else (T,at_,b,1,t,true))) ?_
    show _ = some (if true = true ∧ 1 ≤ v ∧ v ≤ 999 then (T,at_,b,((v:Nat):Int),B y,false) else (T,at_,b,1,t,true))
    by_cases h1:v < 1
    · rw [if_neg (by omega)]
      exact letT (decide_eq_true (by omega)) rfl
    · refine letF (decide_eq_false (by omega)) ?_
      by_cases h2:v ≤ 999
      · rw [if_pos ⟨rfl,by omega,h2⟩]
        refine letV (decide_eq_false (by omega)) ?_
        unfold Ref15.reader.repeats.j2
        refine bifF rfl ?_
        unfold Ref15.reader.repeats.j1
        have hl2:a.length + 1 + y.length < 2 ^ 40:=by
          have:=hl
          simp only [List.length_append,List.length_cons,List.length_nil] at this
          omega
        refine letV (y:=((a.length + 1:Nat):Int)) (by rw [w64n (by omega) (by omega)]; omega) (chkE ⟨by omega,by rw [size_B]; simp only [List.length_append,List.length_cons,List.length_nil]; omega⟩ (letV (y:=B y) ?_ ?_))
        · rw [Int.toNat_natCast,ext_D,L_B]
          show B (List.drop (a.length + 1) (a ++ 42 :: y)) = _
          rw [app_c a 42 y,show a.length + 1 = (a ++ [(42:UInt8)]).length by simp,List.drop_left]
        · rw [show min v 1000 = v by omega]
      · rw [if_neg (by omega)]
        exact letV (decide_eq_true (by omega)) rfl
  | x :: r,a,v,hl=>by
    have hla:a.length + (r.length + 1) < 2 ^ 40:=by
      have:=hl
      simp only [List.length_append,List.length_cons] at this
      omega
    have hl2:a.length < 2 ^ 40:=by omega
    have hin:0 ≤ (a.length:Int) ∧ (a.length:Int) < ((B (a ++ (x :: r ++ 42 :: y))).size:Int):=⟨by omega,by rw [size_B]; simp only [List.length_append,List.length_cons]; omega⟩
    have hst:(a.length:Int) < (((a ++ x :: r).length:Nat):Int):=by simp only [List.length_append,List.length_cons]; omega
    have hB:bt (B (a ++ (x :: r ++ 42 :: y))) (a.length:Int) = ((x.toNat:Nat):Int):=bt_app a x (r ++ 42 :: y)
    rw [List.all_cons]
    cases hd:dgt x with
    | false =>
      rw [if_neg (by simp)]
      unfold Ref15.reader.repeats.l0
      refine loopO_end ?_
      show Ref15.reader.repeats.s0 (B (a ++ (x :: r ++ 42 :: y))) (((a ++ x :: r).length:Nat):Int) T at_ b 1 t false ((min v 1000:Nat):Int) (a.length:Int) = _
      unfold Ref15.reader.repeats.s0
      exact letT (decide_eq_true hst) (chkE hin (letV hB (bindE (digit_eq x) (letT (by rw [hd]; rfl) rfl))))
    | true =>
      have hb:=dgt_b hd
      have ih:=reps_l0 T t at_ b y r (a ++ [x]) (10 * v + (x.toNat - 48)) (by
        have e:a ++ [x] ++ (r ++ 42 :: y) = a ++ (x :: r ++ 42 :: y):=by simp
        rw [e]; exact hl)
      have e1:a ++ [x] ++ (r ++ 42 :: y) = a ++ (x :: r ++ 42 :: y):=by simp
      have e2:a ++ [x] ++ r = a ++ x :: r:=by simp
      rw [e1,e2] at ih
      rw [Bool.true_and]
      refine loopO_next ?_ ih
      show Ref15.reader.repeats.s0 (B (a ++ (x :: r ++ 42 :: y))) (((a ++ x :: r).length:Nat):Int) T at_ b 1 t false ((min v 1000:Nat):Int) (a.length:Int) = _
      unfold Ref15.reader.repeats.s0
      refine letT (decide_eq_true hst) (chkE hin (letV hB (bindE (digit_eq x) (letF (by rw [hd]; rfl) (letV (y:=((10 * min v 1000:Nat):Int)) (by rw [w64n (by omega) (by omega)]; omega) (chkE hin (letV hB ?_)))))))
      show letk (IntKind.u8.wrap (((x.toNat:Nat):Int) - 48)) _ = _
      have hw:=digit_val hd
      refine letV rfl (letV hw (letV (y:=((10 * min v 1000 + (x.toNat - 48):Nat):Int)) (by rw [w64n (by omega) (by omega)]; omega) (letV (y:=((min (10 * v + (x.toNat - 48)) 1000:Nat):Int)) ?_ (letV (succ_len a x hl2) rfl))))
      by_cases h:(1000:Int) < ((10 * min v 1000 + (x.toNat - 48):Nat):Int)
      · rw [if_pos h]; omega
      · rw [if_neg h]; omega
theorem reps_l1 (T t:ByteArray) (at_:Int) (b:Bool):∀ (r a:BS),(a ++ r).length < 2 ^ 40 →
    Ref15.reader.repeats.l1 (B (a ++ r)) T at_ b 1 t false (-1) (a.length:Int) =
      match r.dropWhile nStar with
      | []=>some (T,at_,b,1,t,false)
      | _ :: _=>Ref15.reader.repeats.j0 (B (a ++ r)) T at_ b 1 t false (((a ++ r.takeWhile nStar).length:Nat):Int)
  | [],a,hl=>by
    unfold Ref15.reader.repeats.l1
    refine loopO_end ?_
    show Ref15.reader.repeats.s1 (B (a ++ [])) T at_ b 1 t false (-1) (a.length:Int) = _
    unfold Ref15.reader.repeats.s1
    refine letV rfl (letF (decide_eq_false (by rw [List.append_nil,size_B]; omega)) ?_)
    unfold Ref15.reader.repeats.j0
    rfl
  | x :: r,a,hl=>by
    have hl2:a.length < 2 ^ 40:=by rw [List.length_append] at hl; omega
    have hin:0 ≤ (a.length:Int) ∧ (a.length:Int) < ((B (a ++ x :: r)).size:Int):=⟨by omega,by rw [size_app,List.length_cons]; omega⟩
    have hB:=bt_app a x r
    rw [List.dropWhile_cons,List.takeWhile_cons]
    cases hx:x == 42 with
    | false =>
      have hn:nStar x = true:=by unfold nStar; rw [hx]; rfl
      have ih:=reps_l1 T t at_ b r (a ++ [x]) (by rw [← app_c]; exact hl)
      rw [← app_c] at ih
      rw [hn,if_pos rfl,if_pos rfl,app_c a x (r.takeWhile nStar)]
      refine loopO_next ?_ ih
      show Ref15.reader.repeats.s1 (B (a ++ x :: r)) T at_ b 1 t false (-1) (a.length:Int) = _
      unfold Ref15.reader.repeats.s1
      refine letV rfl (letT (decide_eq_true hin.2) (letT (decide_eq_true (show (-1:Int) < 0 by decide)) ?_))
      unfold Ref15.reader.repeats.j3
      exact chkE hin (letV hB (letF (by rw [show (42:Int) = ((42:Nat):Int) from rfl,beq_u8 _ _ (by decide)]; exact hx) (letV (succ_len a x hl2) rfl)))
    | true =>
      have hn:nStar x = false:=by unfold nStar; rw [hx]; rfl
      rw [hn,if_neg (by simp),if_neg (by simp),List.append_nil]
      refine loopO_next (t:=(T,at_,b,1,t,false,(a.length:Int),(((a ++ [x]).length:Nat):Int))) ?_ ?_
      · show Ref15.reader.repeats.s1 (B (a ++ x :: r)) T at_ b 1 t false (-1) (a.length:Int) = _
        unfold Ref15.reader.repeats.s1
        refine letV rfl (letT (decide_eq_true hin.2) (letT (decide_eq_true (show (-1:Int) < 0 by decide)) ?_))
        unfold Ref15.reader.repeats.j3
        exact chkE hin (letV hB (letT (by rw [show (42:Int) = ((42:Nat):Int) from rfl,beq_u8 _ _ (by decide)]; exact hx) (letV (succ_len a x hl2) rfl)))
      · have key:∀ {v:Option (ByteArray × Int × Bool × Int × ByteArray × Bool)},Ref15.reader.repeats.j0 (B (a ++ x :: r)) T at_ b 1 t false (a.length:Int) = v →
            Ref15.reader.repeats.s1 (B (a ++ x :: r)) T at_ b 1 t false (a.length:Int) (((a ++ [x]).length:Nat):Int) = v.map .inr:=by
          intro v hv
          unfold Ref15.reader.repeats.s1
          refine letV rfl ?_
          rw [hv]
          by_cases hb:(((a ++ [x]).length:Nat):Int) < ((B (a ++ x :: r)).size:Int)
          · exact letT (decide_eq_true hb) (letF (decide_eq_false (by omega)) rfl)
          · exact letF (decide_eq_false hb) rfl
        rw [loopO_eq]
        show Option.bind (Ref15.reader.repeats.s1 (B (a ++ x :: r)) T at_ b 1 t false (a.length:Int) (((a ++ [x]).length:Nat):Int)) _ = _
        rw [key rfl]
        show _ = Ref15.reader.repeats.j0 (B (a ++ x :: r)) T at_ b 1 t false (a.length:Int)
        cases Ref15.reader.repeats.j0 (B (a ++ x :: r)) T at_ b 1 t false (a.length:Int) <;> rfl
theorem reps_eq (T:ByteArray) (at_:Int) (b:Bool) (m:Int) (t:ByteArray) (c:Bool) (s:BS) (hl:s.length < 2 ^ 40) :
    Ref15.reader.repeats T at_ b m t c (B s) = some (match repS s with | some (n,y)=>(T,at_,b,(n:Int),B y,false) | none=>(T,at_,b,1,B s,true)):=by
  unfold Ref15.reader.repeats
  refine (reps_l1 T (B s) at_ b s [] hl).trans ?_
  unfold repS
  have happ:s.takeWhile nStar ++ s.dropWhile nStar = s:=List.takeWhile_append_dropWhile
  cases hd:s.dropWhile nStar with
  | nil=>rfl
  | cons z y =>
    have hz:nStar z = false:=drop_head _ _ _ _ hd
    have hz2:z = 42:=by
      unfold nStar at hz
      rw [Bool.not_eq_false'] at hz
      exact beq_iff_eq.1 hz
    subst hz2
    rw [hd] at happ
    generalize s.takeWhile nStar = a at happ
    subst happ
    simp only [List.nil_append]
    unfold Ref15.reader.repeats.j0
    refine letF (decide_eq_false (by omega)) ?_
    have h:=reps_l0 T (B (a ++ 42 :: y)) at_ b y a [] 0 hl
    simp only [List.nil_append] at h
    refine h.trans ?_
    congr 1
    split <;> rfl
end Go.Q
namespace Go.Q
open Go
set_option maxRecDepth 100000
set_option maxHeartbeats 4000000
theorem isDel_c (c:UInt8):isDel c = (c == 32 || c == 10 || c == 44 || c == 47):=rfl
theorem neN (c:UInt8) (n:Nat) (hn:n < 256):(((c.toNat:Nat):Int) != (n:Int)) = !(c == UInt8.ofNat n):=by
  have h:=beq_u8 c n hn
  unfold bne
  exact congrArg not h
theorem rtok (p:BS) (m:Int) (t:ByteArray) (c:Bool):∀ (r a:BS),(p ++ (a ++ r)).length < 2 ^ 40 →
    Ref15.reader.next_.l0 (p.length:Int) (B (p ++ (a ++ r))) (((p ++ a).length:Nat):Int) true m t c = Ref15.reader.next_.j1 (p.length:Int) (B (p ++ (a ++ r))) (((p ++ (a ++ tokL r)).length:Nat):Int) true m t c
  | [],a,hl=>by
    unfold Ref15.reader.next_.l0
    rw [loopO_eq]
    show Option.bind (Ref15.reader.next_.s0 (p.length:Int) (B (p ++ (a ++ []))) (((p ++ a).length:Nat):Int) true m t c) _ = _
    have h:Ref15.reader.next_.s0 (p.length:Int) (B (p ++ (a ++ []))) (((p ++ a).length:Nat):Int) true m t c = (Ref15.reader.next_.j1 (p.length:Int) (B (p ++ (a ++ []))) (((p ++ a).length:Nat):Int) true m t c).map .inr:=by
      unfold Ref15.reader.next_.s0
      exact letV rfl (letF (decide_eq_false (by rw [List.append_nil,size_B]; omega)) rfl)
    rw [h,show p ++ (a ++ tokL []) = p ++ a by simp [tokL]]
    cases Ref15.reader.next_.j1 (p.length:Int) (B (p ++ (a ++ []))) (((p ++ a).length:Nat):Int) true m t c <;> rfl
  | x :: r,a,hl=>by
    have e0:p ++ (a ++ x :: r) = (p ++ a) ++ x :: r:=by simp
    have hl2:(p ++ a).length < 2 ^ 40:=by rw [e0,List.length_append] at hl; omega
    have hin:0 ≤ (((p ++ a).length:Nat):Int) ∧ (((p ++ a).length:Nat):Int) < ((B (p ++ (a ++ x :: r))).size:Int):=⟨by omega,by rw [e0,size_app,List.length_cons]; omega⟩
    have hB:bt (B (p ++ (a ++ x :: r))) (((p ++ a).length:Nat):Int) = ((x.toNat:Nat):Int):=by rw [e0]; exact bt_app (p ++ a) x r
    have ih:=rtok p m t c r (a ++ [x]) (by
      have e:p ++ (a ++ [x] ++ r) = p ++ (a ++ x :: r):=by simp
      rw [e]; exact hl)
    have e1:p ++ (a ++ [x] ++ r) = p ++ (a ++ x :: r):=by simp
    have e2:p ++ (a ++ [x]) = (p ++ a) ++ [x]:=by simp
    rw [e1,e2] at ih
    have e3:p ++ (a ++ [x] ++ tokL r) = p ++ (a ++ x :: tokL r):=by simp
    rw [e3] at ih
    have stop:∀ {v},Ref15.reader.next_.s0 (p.length:Int) (B (p ++ (a ++ x :: r))) (((p ++ a).length:Nat):Int) true m t c = Option.map .inr v →
        Ref15.reader.next_.l0 (p.length:Int) (B (p ++ (a ++ x :: r))) (((p ++ a).length:Nat):Int) true m t c = v:=by
      intro v h
      unfold Ref15.reader.next_.l0
      rw [loopO_eq]
      show Option.bind (Ref15.reader.next_.s0 (p.length:Int) (B (p ++ (a ++ x :: r))) (((p ++ a).length:Nat):Int) true m t c) _ = _
      rw [h]
      cases v <;> rfl
    unfold tokL
    rw [List.takeWhile_cons,isDel_c]
    have go:∀ {v},(letk (((x.toNat:Nat):Int) != (32:Int)) fun t90=>bif t90 then
        chk (0 ≤ (((p ++ a).length:Nat):Int) ∧ (((p ++ a).length:Nat):Int) < ((B (p ++ (a ++ x :: r))).size:Int)) <|
        letk (bt (B (p ++ (a ++ x :: r))) (((p ++ a).length:Nat):Int)) fun t101 =>
        letk (t101 != (10:Int)) fun t102=>bif t102 then
          chk (0 ≤ (((p ++ a).length:Nat):Int) ∧ (((p ++ a).length:Nat):Int) < ((B (p ++ (a ++ x :: r))).size:Int)) <|
          letk (bt (B (p ++ (a ++ x :: r))) (((p ++ a).length:Nat):Int)) fun t113 =>
          letk (t113 != (44:Int)) fun t114=>bif t114 then
            chk (0 ≤ (((p ++ a).length:Nat):Int) ∧ (((p ++ a).length:Nat):Int) < ((B (p ++ (a ++ x :: r))).size:Int)) <|
            letk (bt (B (p ++ (a ++ x :: r))) (((p ++ a).length:Nat):Int)) fun t125 =>
            letk (t125 != (47:Int)) fun t126=>bif t126 then
              Ref15.reader.next_.j2 (p.length:Int) (B (p ++ (a ++ x :: r))) (((p ++ a).length:Nat):Int) true m t c
            else (Ref15.reader.next_.j1 (p.length:Int) (B (p ++ (a ++ x :: r))) (((p ++ a).length:Nat):Int) true m t c).map .inr
          else (Ref15.reader.next_.j1 (p.length:Int) (B (p ++ (a ++ x :: r))) (((p ++ a).length:Nat):Int) true m t c).map .inr
        else (Ref15.reader.next_.j1 (p.length:Int) (B (p ++ (a ++ x :: r))) (((p ++ a).length:Nat):Int) true m t c).map .inr
      else (Ref15.reader.next_.j1 (p.length:Int) (B (p ++ (a ++ x :: r))) (((p ++ a).length:Nat):Int) true m t c).map .inr) = v →
        Ref15.reader.next_.s0 (p.length:Int) (B (p ++ (a ++ x :: r))) (((p ++ a).length:Nat):Int) true m t c = v:=by
      intro v h
      unfold Ref15.reader.next_.s0
      exact letV rfl (letT (decide_eq_true hin.2) (chkE hin (letV hB h)))
    have b32:=neN x 32 (by decide)
    have b10:=neN x 10 (by decide)
    have b44:=neN x 44 (by decide)
    have b47:=neN x 47 (by decide)
    have endl:(x == 32 || x == 10 || x == 44 || x == 47) = true → Ref15.reader.next_.j1 (p.length:Int) (B (p ++ (a ++ x :: r))) (((p ++ (a ++ if (!(x == 32 || x == 10 || x == 44 || x == 47)) = true then x :: r.takeWhile (fun c=>!isDel c) else [])).length:Nat):Int) true m t c = Ref15.reader.next_.j1 (p.length:Int) (B (p ++ (a ++ x :: r))) (((p ++ a).length:Nat):Int) true m t c:=by
      intro h
      rw [h,if_neg (by simp),List.append_nil]
    cases h1:x == 32 with
    | true =>
      rw [h1,Bool.true_or,Bool.true_or,Bool.true_or] at endl
      rw [Bool.true_or,Bool.true_or,Bool.true_or,endl rfl]
      exact stop (go (letF (by rw [show (32:Int) = ((32:Nat):Int) from rfl,b32,show UInt8.ofNat 32 = 32 from rfl,h1]; rfl) rfl))
    | false =>
      have g1:(((x.toNat:Nat):Int) != (32:Int)) = true:=by rw [show (32:Int) = ((32:Nat):Int) from rfl,b32,show UInt8.ofNat 32 = 32 from rfl,h1]; rfl
      cases h2:x == 10 with
      | true =>
        rw [h1,h2,Bool.or_true,Bool.true_or,Bool.true_or] at endl
        rw [Bool.or_true,Bool.true_or,Bool.true_or,endl rfl]
        exact stop (go (letT g1 (chkE hin (letV hB (letF (by rw [show (10:Int) = ((10:Nat):Int) from rfl,b10,show UInt8.ofNat 10 = 10 from rfl,h2]; rfl) rfl)))))
      | false =>
        have g2:(((x.toNat:Nat):Int) != (10:Int)) = true:=by rw [show (10:Int) = ((10:Nat):Int) from rfl,b10,show UInt8.ofNat 10 = 10 from rfl,h2]; rfl
        cases h3:x == 44 with
        | true =>
          rw [h1,h2,h3,Bool.or_false,Bool.or_true,Bool.true_or] at endl
          rw [Bool.or_false,Bool.or_true,Bool.true_or,endl rfl]
          exact stop (go (letT g1 (chkE hin (letV hB (letT g2 (chkE hin (letV hB (letF (by rw [show (44:Int) = ((44:Nat):Int) from rfl,b44,show UInt8.ofNat 44 = 44 from rfl,h3]; rfl) rfl))))))))
        | false =>
          have g3:(((x.toNat:Nat):Int) != (44:Int)) = true:=by rw [show (44:Int) = ((44:Nat):Int) from rfl,b44,show UInt8.ofNat 44 = 44 from rfl,h3]; rfl
          cases h4:x == 47 with
          | true =>
            rw [h1,h2,h3,h4,Bool.or_true] at endl
            rw [Bool.or_true,endl rfl]
            exact stop (go (letT g1 (chkE hin (letV hB (letT g2 (chkE hin (letV hB (letT g3 (chkE hin (letV hB (letF (by rw [show (47:Int) = ((47:Nat):Int) from rfl,b47,show UInt8.ofNat 47 = 47 from rfl,h4]; rfl) rfl)))))))))))
          | false =>
            have g4:(((x.toNat:Nat):Int) != (47:Int)) = true:=by rw [show (47:Int) = ((47:Nat):Int) from rfl,b47,show UInt8.ofNat 47 = 47 from rfl,h4]; rfl
            rw [if_pos (by rfl)]
            refine loopO_next ?_ ih
            show Ref15.reader.next_.s0 (p.length:Int) (B (p ++ (a ++ x :: r))) (((p ++ a).length:Nat):Int) true m t c = _
            refine go (letT g1 (chkE hin (letV hB (letT g2 (chkE hin (letV hB (letT g3 (chkE hin (letV hB (letT g4 ?_))))))))))
            unfold Ref15.reader.next_.j2
            exact letV (succ_len (p ++ a) x hl2) rfl
def valT:ByteArray:=⟨#[118,97,108,117,101]⟩
theorem rnext_j0 (p q:BS) (m:Int) (t:ByteArray) (b c:Bool) (hl:(p ++ q).length < 2 ^ 40) :
    Ref15.reader.next_.j0 (B (p ++ q)) (p.length:Int) b m t c = some (
      if q = [] then (B (p ++ q),(p.length:Int),true,m,t,c,⟨#[101,110,100]⟩)
      else if hasC 47 q = true then (B (p ++ q),(p.length:Int),true,m,t,c,⟨#[115,108,97,115,104]⟩)
      else match repS (tokL q) with
        | some (n,y)=>(B (p ++ q),(((p ++ tokL q).length:Nat):Int),true,(n:Int),B y,false,valT)
        | none=>(B (p ++ q),(((p ++ tokL q).length:Nat):Int),true,1,B (tokL q),true,valT)):=by
  unfold Ref15.reader.next_.j0
  cases q with
  | nil=>exact letV rfl (letT (by rw [beq_iff_eq,List.append_nil,size_B]) rfl)
  | cons x r =>
    have hin:0 ≤ (p.length:Int) ∧ (p.length:Int) < ((B (p ++ x :: r)).size:Int):=⟨by omega,by rw [size_app,List.length_cons]; omega⟩
    have hne:((p.length:Int) == ((B (p ++ x :: r)).size:Int)) = false:=by rw [beq_eq_false_iff_ne]; omega
    have hB:=bt_app p x r
    rw [if_neg (List.cons_ne_nil _ _)]
    cases h:x == 47 with
    | true =>
      rw [if_pos (show hasC 47 (x :: r) = true from h)]
      exact letV rfl (letF hne (chkE hin (letV hB (letT (by rw [show (47:Int) = ((47:Nat):Int) from rfl,beq_u8 _ _ (by decide)]; exact h) rfl))))
    | false =>
      rw [if_neg (by show ¬ (x == 47) = true; rw [h]; simp)]
      refine letV rfl (letF hne (chkE hin (letV hB (letF (by rw [show (47:Int) = ((47:Nat):Int) from rfl,beq_u8 _ _ (by decide)]; exact h) ?_))))
      have hr:=rtok p m t c (x :: r) [] hl
      simp only [List.nil_append,List.append_nil] at hr
      refine hr.trans ?_
      have happ:=tok_app (x :: r)
      have hle:(tokL (x :: r)).length ≤ (x :: r).length:=by
        have:=congrArg List.length happ
        rw [List.length_append] at this
        omega
      have hall:(p ++ x :: r).length = p.length + (x :: r).length:=List.length_append
      unfold Ref15.reader.next_.j1
      refine chkE ⟨by omega,by rw [List.length_append]; omega,by rw [size_app,List.length_append]; omega⟩ (letV (y:=B (tokL (x :: r))) ?_ (bindE (reps_eq _ _ _ _ _ _ _ (by omega)) ?_))
      · rw [Int.toNat_natCast,Int.toNat_natCast,← B_L ((B (p ++ x :: r)).extract p.length (p ++ tokL (x :: r)).length),L_ext,L_B]
        congr 1
        have e:p ++ x :: r = (p ++ tokL (x :: r)) ++ rstL (x :: r):=by rw [List.append_assoc,happ]
        rw [e,List.take_left,List.drop_left]
      · cases repS (tokL (x :: r)) with
        | none=>rfl
        | some v=>obtain ⟨n,y⟩:=v; rfl
def effD (b:Bool) (d:BS):BS:=if b = true then skB (cmD (skB d)) else skB d
theorem skB_app (d:BS):d.takeWhile isBl ++ skB d = d:=List.takeWhile_append_dropWhile
theorem rnext (p d:BS) (b:Bool) (m:Int) (t:ByteArray) (c:Bool) (hl:(p ++ d).length < 2 ^ 40) :
    ∃ p',p ++ d = p' ++ effD b d ∧ Ref15.reader.next_ (B (p ++ d)) (p.length:Int) b m t c = Ref15.reader.next_.j0 (B (p' ++ effD b d)) (p'.length:Int) b m t c:=by
  have hb:=rblanks d p b m t c hl
  have h0:p ++ d = (p ++ d.takeWhile isBl) ++ skB d:=by rw [List.append_assoc,skB_app]
  generalize hp1:p ++ d.takeWhile isBl = p1 at hb h0
  rw [h0] at hb hl
  unfold effD
  cases b with
  | false =>
    refine ⟨p1,h0,?_⟩
    rw [h0]
    unfold Ref15.reader.next_
    refine bindE hb (bifF rfl ?_)
    unfold Ref15.reader.next_.j3
    exact bifF rfl rfl
  | true =>
    rw [if_pos rfl]
    have hq:=skB_idem d
    generalize skB d = q at hb h0 hl hq
    have hlp:p1.length < 2 ^ 40:=by rw [List.length_append] at hl; omega
    cases q with
    | nil =>
      refine ⟨p1,h0,?_⟩
      rw [h0]
      unfold Ref15.reader.next_
      refine bindE hb (bifT rfl (letV rfl (letF (decide_eq_false (by rw [List.append_nil,size_B]; omega)) ?_)))
      unfold Ref15.reader.next_.j3
      exact bifF rfl rfl
    | cons x r =>
      have hin:0 ≤ (p1.length:Int) ∧ (p1.length:Int) < ((B (p1 ++ x :: r)).size:Int):=⟨by omega,by rw [size_app,List.length_cons]; omega⟩
      have hB:=bt_app p1 x r
      rw [cmD_cons]
      cases h:x == 44 with
      | false =>
        rw [if_neg (by simp),hq]
        refine ⟨p1,h0,?_⟩
        rw [h0]
        unfold Ref15.reader.next_
        refine bindE hb (bifT rfl (letV rfl (letT (decide_eq_true hin.2) (chkE hin (letV hB (letV (y:=false) (by rw [show (44:Int) = ((44:Nat):Int) from rfl,beq_u8 _ _ (by decide)]; exact h) ?_))))))
        unfold Ref15.reader.next_.j3
        exact bifF rfl rfl
      | true =>
        rw [if_pos rfl]
        have hb2:=rblanks r (p1 ++ [x]) true m t c (by rw [← app_c]; exact hl)
        rw [← app_c] at hb2
        have h2:p1 ++ x :: r = (p1 ++ [x] ++ r.takeWhile isBl) ++ skB r:=by rw [List.append_assoc,skB_app]; simp
        refine ⟨p1 ++ [x] ++ r.takeWhile isBl,h0.trans h2,?_⟩
        rw [h0]
        unfold Ref15.reader.next_
        refine bindE hb (bifT rfl (letV rfl (letT (decide_eq_true hin.2) (chkE hin (letV hB (letV (y:=true) (by rw [show (44:Int) = ((44:Nat):Int) from rfl,beq_u8 _ _ (by decide)]; exact h) ?_))))))
        unfold Ref15.reader.next_.j3
        refine bifT rfl (letV (succ_len p1 x hlp) (bindE hb2 ?_))
        rw [← h2]
theorem repS_le {s:BS} {n:Nat} {y:BS} (h:repS s = some (n,y)):n ≤ 999:=by
  unfold repS at h
  split at h
  · simp only [Option.some.injEq,Prod.mk.injEq] at h; omega
  · split at h
    · rename_i h2
      simp only [Option.some.injEq,Prod.mk.injEq] at h; omega
    · cases h
theorem tok_step {q:BS} (hq:skB q = q) (h0:q ≠ []) (h1:hasC 47 q = false):(cmD (skB (rstL q))).length < q.length:=by
  have sk:∀ l:BS,(skB l).length ≤ l.length:=fun l=>(List.dropWhile_suffix _).length_le
  have cm:∀ l:BS,(cmD l).length ≤ l.length:=fun l=>by
    cases l with
    | nil=>exact Nat.le_refl _
    | cons c r=>rw [cmD_cons]; split <;> simp
  have happ:=congrArg List.length (tok_app q)
  rw [List.length_append] at happ
  cases ht:tokL q with
  | cons x r =>
    rw [ht,List.length_cons] at happ
    have:=cm (skB (rstL q)); have:=sk (rstL q)
    omega
  | nil =>
    have hr:rstL q = q:=by have:=tok_app q; rw [ht] at this; exact this
    rw [hr,hq]
    cases q with
    | nil=>exact absurd rfl h0
    | cons x r =>
      have hx:(x == 47) = false:=h1
      have hb:isBl x = false:=drop_head isBl (x :: r) x r hq
      have hd:isDel x = true:=by
        unfold tokL at ht
        rw [List.takeWhile_cons] at ht
        cases hh:isDel x with
        | true=>rfl
        | false=>rw [hh] at ht; cases ht
      have h44:(x == 44) = true:=by
        rw [isDel_c,hx,Bool.or_false,← isBl_c,hb,Bool.false_or] at hd
        exact hd
      rw [cmD_cons,if_pos h44,List.length_cons]
      omega
theorem count_sim:∀ (N:Nat) (l p d:BS) (b:Bool) (k:Nat) (m:Int) (t:ByteArray) (c:Bool),(skB l).length ≤ N → Good l → (p ++ d).length < 2 ^ 40 → skB l = effD b d → k + 1000 * (skB l).length ≤ 1000000000 →
    ∃ r,Lst.Count.l0 (k:Int) (B l) = some r ∧ Ref15.Count.l0 (B (p ++ d)) (p.length:Int) b m t c (k:Int) = some r:=by
  intro N
  induction N with
  | zero =>
    intro l p d b k m t c hN hg hl he hk
    have h0:skB l = []:=List.eq_nil_of_length_eq_zero (by omega)
    obtain ⟨p',hp,hr⟩:=rnext p d b m t c hl
    rw [← he,h0] at hp hr
    rw [rnext_j0 p' [] m t b c (by rw [← hp]; exact hl),if_pos rfl] at hr
    refine ⟨((k:Int),0),?_,?_⟩
    · refine loopO_end ?_
      show Lst.Count.s0 (k:Int) (B l) = _
      unfold Lst.Count.s0
      refine bindE (ended_p l) ?_
      rw [h0]; rfl
    · refine loopO_end ?_
      show Ref15.Count.s0 (B (p ++ d)) (p.length:Int) b m t c (k:Int) = _
      unfold Ref15.Count.s0
      exact bindE hr (letV (y:=false) (by rw [eqL]; rfl) (bifF rfl rfl))
  | succ N ih =>
    intro l p d b k m t c hN hg hl he hk
    obtain ⟨p',hp,hr⟩:=rnext p d b m t c hl
    rw [← he] at hp hr
    have hl2:=hl
    rw [hp] at hl2
    rw [rnext_j0 p' (skB l) m t b c hl2] at hr
    have hE:=ended_p l
    have hgq:=hg.sk
    have hqq:=skB_idem l
    generalize skB l = q at hN he hk hp hr hE hgq hqq hl2
    by_cases h0:q = []
    · rw [if_pos h0] at hr
      refine ⟨((k:Int),0),?_,?_⟩
      · refine loopO_end ?_
        show Lst.Count.s0 (k:Int) (B l) = _
        unfold Lst.Count.s0
        refine bindE hE ?_
        rw [h0]; rfl
      · refine loopO_end ?_
        show Ref15.Count.s0 (B (p ++ d)) (p.length:Int) b m t c (k:Int) = _
        unfold Ref15.Count.s0
        exact bindE hr (letV (y:=false) (by rw [eqL]; rfl) (bifF rfl rfl))
    · rw [if_neg h0] at hr
      have h0b:(q == []) = false:=by
        cases q with
        | nil=>exact absurd rfl h0
        | cons=>rfl
      cases h47:hasC 47 q with
      | true =>
        rw [if_pos h47] at hr
        refine ⟨((k:Int),0),?_,?_⟩
        · refine loopO_end ?_
          show Lst.Count.s0 (k:Int) (B l) = _
          unfold Lst.Count.s0
          exact bindE hE (bifF h0b (bifT h47 rfl))
        · refine loopO_end ?_
          show Ref15.Count.s0 (B (p ++ d)) (p.length:Int) b m t c (k:Int) = _
          unfold Ref15.Count.s0
          exact bindE hr (letV (y:=false) (by rw [eqL]; rfl) (bifF rfl rfl))
      | false =>
        rw [if_neg (by rw [h47]; simp)] at hr
        have hn:=nextT q hgq hqq
        cases hs:repS (tokL q) with
        | none =>
          rw [hs] at hr hn
          refine ⟨(0,3),?_,?_⟩
          · refine loopO_end ?_
            show Lst.Count.s0 (k:Int) (B l) = _
            unfold Lst.Count.s0
            refine bindE hE (bifF h0b (bifF h47 ?_))
            unfold Lst.Count.j0
            exact bindE hn (letT (by decide) rfl)
          · refine loopO_end ?_
            show Ref15.Count.s0 (B (p ++ d)) (p.length:Int) b m t c (k:Int) = _
            unfold Ref15.Count.s0
            exact bindE hr (letV (y:=true) (by rw [eqL]; rfl) (bifT rfl (bifT rfl rfl)))
        | some v =>
          obtain ⟨n,y⟩:=v
          rw [hs] at hr hn
          have hle:=repS_le hs
          have hst:=tok_step hqq h0 h47
          have e2:p' ++ q = (p' ++ tokL q) ++ rstL q:=by rw [List.append_assoc,tok_app]
          have sk:(skB (cmD (skB (rstL q)))).length ≤ (cmD (skB (rstL q))).length:=(List.dropWhile_suffix _).length_le
          obtain ⟨r,hr1,hr2⟩:=ih (cmD (skB (rstL q))) (p' ++ tokL q) (rstL q) true (k + n) (n:Int) (B y) false (by omega) hgq.rst.sk.cm (by rw [← e2]; exact hl2) rfl (by omega)
          have hw:IntKind.i64.wrap ((k:Int) + (n:Int)) = ((k + n:Nat):Int):=by rw [w64n (by omega) (by omega)]; omega
          refine ⟨r,loopO_next ?_ hr1,loopO_next ?_ hr2⟩
          · show Lst.Count.s0 (k:Int) (B l) = _
            unfold Lst.Count.s0
            refine bindE hE (bifF h0b (bifF h47 ?_))
            unfold Lst.Count.j0
            exact bindE hn (letF rfl (letV hw rfl))
          · show Ref15.Count.s0 (B (p ++ d)) (p.length:Int) b m t c (k:Int) = _
            unfold Ref15.Count.s0
            refine bindE hr (letV (y:=true) (by rw [eqL]; rfl) (bifT rfl (bifF rfl (letV hw ?_))))
            rw [← e2]
theorem counts_eq (s:ByteArray) (hs:s.size < 2 ^ 40):∃ r,Lst.Count s = some r ∧ Ref15.Count s = some r:=by
  obtain ⟨l,rfl⟩:∃ l,s = B l:=⟨L s,(B_L s).symm⟩
  have hl:l.length < 2 ^ 40:=hs
  unfold Lst.Count Ref15.Count
  rw [ptext_eq l hl,rtext_eq l hl]
  cases ht:isTxt l with
  | false=>exact ⟨(0,2),bindE rfl (letT rfl rfl),bindE rfl (letT rfl rfl)⟩
  | true =>
    have hg:Good l:=by
      unfold isTxt at ht
      rw [Bool.and_eq_true,decide_eq_true_eq] at ht
      exact ht
    have sk:(skB l).length ≤ l.length:=(List.dropWhile_suffix _).length_le
    obtain ⟨r,h1,h2⟩:=count_sim (skB l).length l [] l false 0 0 ⟨#[]⟩ false (Nat.le_refl _) hg (by simpa using hl) rfl (by have:=hg.2; omega)
    exact ⟨r,bindE rfl (letF rfl h1),bindE rfl (letF rfl h2)⟩
theorem ListingCounts_of (s:ByteArray):Law15.ListingCounts s = some true:=by
  unfold Law15.ListingCounts
  by_cases h9:(s.size:Int) > 9000
  · exact letV rfl (letT (decide_eq_true h9) (bindE Law15.Awake_eq rfl))
  · obtain ⟨r,h1,h2⟩:=counts_eq s (by omega)
    exact letV rfl (letF (decide_eq_false h9) (bindE h1 (bindE h2 (letT (beq_self_eq_true _) (letT (beq_self_eq_true _) (bindE Law15.Awake_eq rfl))))))
end Go.Q
