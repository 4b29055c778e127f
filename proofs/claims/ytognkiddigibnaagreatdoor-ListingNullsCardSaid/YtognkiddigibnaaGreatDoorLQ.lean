import Derived.Test.YtognkiddigibnaaGreatDoorPC
import Derived.Lib.AtoiAll
import Derived.Lib.IndexAny
import Derived.Lib.SlTrimSet
import Derived.Lib.IndexMore
import Derived.Test.YtognkiddigibnaaGreatDoorLG3
import Derived.Test.YtognkiddigibnaaGreatDoorZU
namespace Go.Q
open Go
def dgt (c:UInt8):Bool:=decide (48 ≤ c.toNat) && decide (c.toNat ≤ 57)
theorem dgt_b {c:UInt8} (h:dgt c = true):48 ≤ c.toNat ∧ c.toNat ≤ 57:=by
  unfold dgt at h
  rw [Bool.and_eq_true,decide_eq_true_eq,decide_eq_true_eq] at h
  exact h
def dvl:Nat → BS → Nat
  | a,[]=>a
  | a,c :: r=>dvl (10 * a + (c.toNat - 48)) r
theorem dvl_ge:∀ (l:BS) (a:Nat),a ≤ dvl a l
  | [],_=>Nat.le_refl _
  | c :: r,a=>by
    have:=dvl_ge r (10 * a + (c.toNat - 48))
    show a ≤ dvl (10 * a + (c.toNat - 48)) r
    omega
theorem parse_all:∀ (l:BS) (a:Nat),l.all dgt = true → a < 18446744073709551616 → Lib.parseUint10 a l = if dvl a l < 18446744073709551616 then .ok (dvl a l) else .range
  | [],a,_,h=>by
    show Lib.NumEnd.ok a = _
    rw [if_pos (show dvl a [] < 18446744073709551616 from h)]; rfl
  | c :: r,a,h,h1=>by
    rw [List.all_cons,Bool.and_eq_true] at h
    have hc:=dgt_b h.1
    have hg:=dvl_ge r (10 * a + (c.toNat - 48))
    unfold Lib.parseUint10
    rw [if_pos hc]
    show _ = if dvl (10 * a + (c.toNat - 48)) r < _ then Lib.NumEnd.ok (dvl (10 * a + (c.toNat - 48)) r) else _
    split
    · rw [if_neg (by omega)]
    · split
      · rw [if_neg (by omega)]
      · rw [show a * 10 + (c.toNat - 48) = 10 * a + (c.toNat - 48) by omega]
        exact parse_all r _ h.2 (by omega)
theorem dvl_zeros:∀ l:BS,dvl 0 (l.dropWhile (· == 48)) = dvl 0 l
  | []=>rfl
  | c :: r=>by
    rw [List.dropWhile_cons]
    cases hc:c == 48 with
    | true =>
      have:c = 48:=beq_iff_eq.1 hc
      subst this
      simp only [if_true]
      rw [dvl_zeros r]
      rfl
    | false=>simp
theorem all_zeros:∀ l:BS,(l.dropWhile (· == 48)).all dgt = l.all dgt
  | []=>rfl
  | c :: r=>by
    rw [List.dropWhile_cons]
    cases hc:c == 48 with
    | true =>
      have:c = 48:=beq_iff_eq.1 hc
      subst this
      simp only [if_true]
      rw [all_zeros r]
      rfl
    | false=>simp
theorem drop_head:∀ (p:UInt8 → Bool) (l:BS) (c:UInt8) (r:BS),l.dropWhile p = c :: r → p c = false
  | p,[],c,r,h=>by cases h
  | p,d :: l,c,r,h=>by
    rw [List.dropWhile_cons] at h
    cases hd:p d with
    | true=>rw [hd] at h; exact drop_head p l c r (by simpa using h)
    | false=>rw [hd] at h; simp at h; rw [← h.1]; exact hd
theorem drop_all:∀ (p:UInt8 → Bool) (l:BS),l.dropWhile p = [] ↔ l.all p = true
  | p,[]=>by simp
  | p,d :: l=>by
    rw [List.dropWhile_cons,List.all_cons]
    cases hd:p d with
    | true=>simpa using drop_all p l
    | false=>simp
theorem atoi_zeros (l:BS):(∃ v:Nat,1 ≤ v ∧ Lib.atoiAll (l.dropWhile (· == 48)) = .ok (v:Int) ∧ l.all dgt = true ∧ dvl 0 l = v) ∨ ((l.dropWhile (· == 48)).all dgt = false) ∨
    ((∀ v,Lib.atoiAll (l.dropWhile (· == 48)) ≠ .ok v) ∧ (dvl 0 l < 1 ∨ 1000 ≤ dvl 0 l)):=by
  cases ha:(l.dropWhile (· == 48)).all dgt with
  | false=>exact .inr (.inl rfl)
  | true =>
    have hv:=dvl_zeros l
    have hal:=all_zeros l
    cases hd:l.dropWhile (· == 48) with
    | nil =>
      rw [hd] at hv
      exact .inr (.inr ⟨fun v e=>(by unfold Lib.atoiAll at e; cases e),.inl (by rw [← hv]; exact Nat.zero_lt_one)⟩)
    | cons c r =>
      have h48:=drop_head _ _ _ _ hd
      rw [hd] at ha hv hal
      have hc:dgt c = true:=by rw [List.all_cons,Bool.and_eq_true] at ha; exact ha.1
      have hb:=dgt_b hc
      have hne:c.toNat ≠ 48:=by
        intro e
        have:c = 48:=UInt8.toNat_inj.1 e
        rw [this] at h48; cases h48
      have hge:1 ≤ dvl 0 (c :: r):=by
        have:=dvl_ge r (10 * 0 + (c.toNat - 48))
        show 1 ≤ dvl (10 * 0 + (c.toNat - 48)) r
        omega
      have hp:Lib.atoiAll (c :: r) = if dvl 0 (c :: r) < 9223372036854775808 then .ok ((dvl 0 (c :: r):Nat):Int) else .range:=by
        unfold Lib.atoiAll Lib.parseMag
        simp only
        rw [if_neg (by omega:¬ (c.toNat = 43 ∨ c.toNat = 45)),if_neg (by simp),parse_all _ 0 ha (by omega)]
        by_cases h1:dvl 0 (c :: r) < 18446744073709551616
        · rw [if_pos h1]
          simp only
          by_cases h2:dvl 0 (c :: r) < 9223372036854775808
          · rw [if_neg (by omega),if_neg (by omega),if_neg (by omega),if_pos h2]
          · rw [if_pos (by omega),if_neg h2]
        · rw [if_neg h1,if_neg (by omega)]
      rw [hp]
      by_cases h2:dvl 0 (c :: r) < 9223372036854775808
      · rw [if_pos h2]
        exact .inl ⟨_,hge,rfl,by rw [← hal]; exact ha,hv.symm⟩
      · rw [if_neg h2]
        exact .inr (.inr ⟨fun v e=>(by cases e),.inr (by omega)⟩)
theorem u8_all (p:UInt8 → Bool) (h:((List.range 256).all fun n=>p (UInt8.ofNat n)) = true) (c:UInt8):p c = true:=by
  have:=List.all_eq_true.1 h c.toNat (List.mem_range.2 c.toNat_lt)
  simpa using this
def cs10:BS:=[48,49,50,51,52,53,54,55,56,57]
theorem cs10_dgt (c:UInt8):cs10.contains c = dgt c:=by
  have key:=u8_all (fun c=>cs10.contains c == dgt c) (by decide +kernel)
  exact beq_iff_eq.1 (key c)
theorem trimS_nil (l cs:BS):Lib.trimS l cs = [] ↔ l.all cs.contains = true:=by
  unfold Lib.trimS Lib.trimLeftS Lib.trimRightS
  rw [drop_all]
  constructor
  · intro h
    have h1:(l.reverse.dropWhile (cs.contains ·)) = []:=by
      cases hd:l.reverse.dropWhile (cs.contains ·) with
      | nil=>rfl
      | cons c r =>
        have hc:=drop_head _ _ _ _ hd
        rw [hd] at h
        rw [List.all_eq_true] at h
        have:=h c (by simp)
        rw [this] at hc; cases hc
    rw [drop_all,List.all_reverse] at h1
    exact h1
  · intro h
    have h1:(l.reverse.dropWhile (cs.contains ·)) = []:=by rw [drop_all,List.all_reverse]; exact h
    rw [h1]; rfl
theorem trim10 (l:BS):Lib.trimS l cs10 = [] ↔ l.all dgt = true:=by
  rw [trimS_nil,show cs10.contains = dgt from funext cs10_dgt]
def isBl (c:UInt8):Bool:=c == 32 || c == 10
def isDel (c:UInt8):Bool:=c == 32 || c == 10 || c == 44 || c == 47
theorem csBl (c:UInt8):([32,10]:BS).contains c = isBl c:=by
  have key:=u8_all (fun c=>([32,10]:BS).contains c == isBl c) (by decide +kernel)
  exact beq_iff_eq.1 (key c)
theorem csDel (c:UInt8):([32,10,44,47]:BS).contains c = isDel c:=by
  have key:=u8_all (fun c=>([32,10,44,47]:BS).contains c == isDel c) (by decide +kernel)
  exact beq_iff_eq.1 (key c)
def skB (l:BS):BS:=l.dropWhile isBl
theorem trimLeft_bl (l:BS):Lib.trimLeftS l [32,10] = skB l:=by
  unfold Lib.trimLeftS skB
  rw [show (fun c:UInt8=>([32,10]:BS).contains c) = isBl from funext csBl]
def tokL (l:BS):BS:=l.takeWhile fun c=>!isDel c
def rstL (l:BS):BS:=l.dropWhile fun c=>!isDel c
theorem tok_app (l:BS):tokL l ++ rstL l = l:=List.takeWhile_append_dropWhile
theorem indexAny_del:∀ l:BS,Lib.indexAny (l ++ [32]) [32,10,44,47] = ((tokL l).length:Int)
  | []=>rfl
  | c :: r=>by
    have ih:=indexAny_del r
    show (if ([32,10,44,47]:BS).contains c then (0:Int) else if Lib.indexAny (r ++ [32]) [32,10,44,47] == -1 then -1 else Lib.indexAny (r ++ [32]) [32,10,44,47] + 1) = _
    rw [csDel,ih]
    unfold tokL
    rw [List.takeWhile_cons]
    cases isDel c with
    | true=>rfl
    | false =>
      rw [if_neg (by simp),if_neg (by rw [beq_iff_eq]; omega)]
      simp [tokL]
theorem take_tok (l:BS):l.take (tokL l).length = tokL l:=by
  have h:=congrArg (List.take (tokL l).length) (tok_app l)
  rw [List.take_left] at h
  exact h.symm
theorem drop_tok (l:BS):l.drop (tokL l).length = rstL l:=by
  have h:=congrArg (List.drop (tokL l).length) (tok_app l)
  rw [List.drop_left] at h
  exact h.symm
def nStar (c:UInt8):Bool:=!(c == 42)
theorem index_star:∀ l:BS,Lib.index l [42] = match l.dropWhile nStar with | []=>-1 | _ :: _=>((l.takeWhile nStar).length:Int)
  | []=>rfl
  | c :: r=>by
    have ih:=index_star r
    unfold Lib.index
    rw [List.dropWhile_cons,List.takeWhile_cons]
    cases hc:c == 42 with
    | true =>
      have:c = 42:=beq_iff_eq.1 hc
      subst this
      simp [nStar,List.isPrefixOf]
    | false =>
      have h1:([42]:BS).isPrefixOf (c :: r) = false:=by
        simp only [List.isPrefixOf,Bool.and_true]
        rw [beq_eq_false_iff_ne] at hc ⊢
        exact fun e=>hc e.symm
      have h2:nStar c = true:=by unfold nStar; rw [hc]; rfl
      rw [h1,h2,ih]
      simp only [if_true,Bool.false_eq_true,if_false]
      cases r.dropWhile nStar with
      | nil=>rfl
      | cons x y =>
        simp only
        rw [if_neg (by rw [beq_iff_eq]; omega),List.length_cons]
        omega
theorem cut_star (l:BS):Lib.cut l [42] = match l.dropWhile nStar with | []=>(l,[],false) | _ :: y=>(l.takeWhile nStar,y,true):=by
  unfold Lib.cut
  rw [index_star]
  have happ:l.takeWhile nStar ++ l.dropWhile nStar = l:=List.takeWhile_append_dropWhile
  cases hd:l.dropWhile nStar with
  | nil=>rfl
  | cons x y =>
    simp only
    rw [if_pos (by omega),Int.toNat_natCast]
    rw [hd] at happ
    have e1:l.take (l.takeWhile nStar).length = l.takeWhile nStar:=by
      have h:=congrArg (List.take (l.takeWhile nStar).length) happ
      rw [List.take_left] at h; exact h.symm
    have e2:l.drop ((l.takeWhile nStar).length + 1) = y:=by
      have h:=congrArg (List.drop ((l.takeWhile nStar).length + 1)) happ
      rw [← List.drop_drop,List.drop_left] at h
      exact h.symm
    rw [e1]
    show (_,l.drop ((l.takeWhile nStar).length + 1),true) = _
    rw [e2]
end Go.Q
namespace Go.Q
open Go
set_option maxRecDepth 100000
set_option maxHeartbeats 4000000
theorem bifT {ρ:Type} {x:Bool} {A B r:Option ρ} (hx:x = true) (h:A = r):(bif x then A else B) = r:=by subst hx; exact h
theorem bifF {ρ:Type} {x:Bool} {A B r:Option ρ} (hx:x = false) (h:B = r):(bif x then A else B) = r:=by subst hx; exact h
theorem nI_app (p:BS) (c:UInt8) (r:BS):(nI (p ++ c :: r))[p.length]? = some ((c.toNat:Nat):Int):=by
  unfold nI; rw [List.getElem?_map,List.getElem?_append_right (Nat.le_refl _),Nat.sub_self]; rfl
theorem succ_len (p:BS) (c:UInt8) (h:p.length < 2 ^ 40):IntKind.i64.wrap ((p.length:Int) + (1:Int)) = (((p ++ [c]).length:Nat):Int):=by
  rw [w64n (by omega) (by omega),List.length_append,List.length_singleton]; omega
theorem app_c (p:BS) (c:UInt8) (r:BS):p ++ c :: r = (p ++ [c]) ++ r:=by simp
def okT (c:UInt8):Bool:=c == 10 || (!(decide ((c.toNat:Int) < 32)) && !(decide ((c.toNat:Int) > 126)))
def isTxt (l:BS):Bool:=l.all okT && decide (l.length ≤ 8000)
theorem okT_asc {c:UInt8} (h:okT c = true):c.toNat < 128:=by
  unfold okT at h
  rw [Bool.or_eq_true,beq_iff_eq,Bool.and_eq_true] at h
  rcases h with h | ⟨_,h⟩
  · subst h; decide
  · rw [Bool.not_eq_true',decide_eq_false_iff_not] at h; omega
theorem ne10 (c:UInt8):(((c.toNat:Nat):Int) != (10:Int)) = !(c == 10):=by
  have h:=beq_u8 c 10 (by decide)
  unfold bne
  exact congrArg not h
theorem ptext_l0:∀ (d p:BS),(p ++ d).length < 2 ^ 40 → Lst.isText.l0 (B (p ++ d)) (nI (p ++ d)) ((p ++ d).length:Int) (p.length:Int) = some (d.all okT && decide ((p ++ d).length ≤ 8000))
  | [],p,hl=>by
    unfold Lst.isText.l0
    refine loopO_end ?_
    show Lst.isText.s0 _ _ _ _ = _
    unfold Lst.isText.s0
    refine letF (decide_eq_false (by rw [List.append_nil]; omega)) ?_
    rw [show decide ((p ++ ([]:BS)).length ≤ 8000) = decide (((B (p ++ ([]:BS))).size:Int) ≤ 8000) by rw [decide_eq_decide,size_B]; omega]
    rfl
  | c :: r,p,hl=>by
    have hl2:p.length < 2 ^ 40:=by rw [List.length_append] at hl; omega
    have ih:=ptext_l0 r (p ++ [c]) (by rw [← app_c]; exact hl)
    rw [← app_c] at ih
    have start:∀ {x},(letk (((c.toNat:Nat):Int) != (10:Int)) fun t13 =>
      bif t13 then
      letk (decide (((c.toNat:Nat):Int) < (32:Int))) fun t16 =>
      bif t16 then some (.inr false) else
        letk (decide (((c.toNat:Nat):Int) > (126:Int))) fun t19 =>
        bif t19 then some (.inr false) else
          letk (IntKind.i64.wrap ((p.length:Int) + (1:Int))) fun t22_1=>some (.inl t22_1)
      else letk (IntKind.i64.wrap ((p.length:Int) + (1:Int))) fun t22=>some (.inl t22)) = x → Lst.isText.s0 (B (p ++ c :: r)) (nI (p ++ c :: r)) ((p ++ c :: r).length:Int) (p.length:Int) = x:=by
      intro x h
      unfold Lst.isText.s0
      refine letT (decide_eq_true (by rw [List.length_append,List.length_cons]; omega)) (chkE ⟨by omega,by rw [nI_len,List.length_append,List.length_cons]; omega⟩ (letV rfl (bindE ?_ h)))
      rw [Nat.zero_add,Int.toNat_natCast]
      exact nI_app p c r
    have next:Lst.isText.s0 (B (p ++ c :: r)) (nI (p ++ c :: r)) ((p ++ c :: r).length:Int) (p.length:Int) = some (.inl ((p ++ [c]).length:Int)) → Lst.isText.l0 (B (p ++ c :: r)) (nI (p ++ c :: r)) ((p ++ c :: r).length:Int) (p.length:Int) = some (r.all okT && decide ((p ++ c :: r).length ≤ 8000)):=fun h=>loopO_next h ih
    have stop:Lst.isText.s0 (B (p ++ c :: r)) (nI (p ++ c :: r)) ((p ++ c :: r).length:Int) (p.length:Int) = some (.inr false) → Lst.isText.l0 (B (p ++ c :: r)) (nI (p ++ c :: r)) ((p ++ c :: r).length:Int) (p.length:Int) = some false:=fun h=>loopO_end h
    rw [List.all_cons]
    unfold okT
    cases h10:c == 10 with
    | true=>exact next (start (letF (by rw [ne10,h10]; rfl) (letV (succ_len p c hl2) rfl)))
    | false =>
      by_cases h1:((c.toNat:Nat):Int) < 32
      · rw [decide_eq_true h1]
        exact stop (start (letT (by rw [ne10,h10]; rfl) (letT (decide_eq_true h1) rfl)))
      · rw [decide_eq_false h1]
        by_cases h2:((c.toNat:Nat):Int) > 126
        · rw [decide_eq_true h2]
          exact stop (start (letT (by rw [ne10,h10]; rfl) (letF (decide_eq_false h1) (letT (decide_eq_true h2) rfl))))
        · rw [decide_eq_false h2]
          exact next (start (letT (by rw [ne10,h10]; rfl) (letF (decide_eq_false h1) (letF (decide_eq_false h2) (letV (succ_len p c hl2) rfl)))))
theorem ptext_eq (l:BS) (hl:l.length < 2 ^ 40):Lst.isText (B l) = some (isTxt l):=by
  unfold Lst.isText
  refine letV (bytesI_nI l) (letV (by rw [nI_len]) ?_)
  exact ptext_l0 l [] hl
def Good (l:BS):Prop:=l.all okT = true ∧ l.length ≤ 8000
theorem Good.drop {l:BS} (h:Good l) (p:UInt8 → Bool):Good (l.dropWhile p):=by
  refine ⟨?_,Nat.le_trans ((List.dropWhile_suffix p).length_le) h.2⟩
  rw [List.all_eq_true]
  exact fun x hx=>List.all_eq_true.1 h.1 x ((List.dropWhile_suffix p).mem hx)
theorem Good.tail {c:UInt8} {l:BS} (h:Good (c :: l)):Good l:=by
  refine ⟨?_,by have:=h.2; rw [List.length_cons] at this; omega⟩
  have:=h.1
  rw [List.all_cons,Bool.and_eq_true] at this
  exact this.2
def hasC (c:UInt8):BS → Bool | d :: _=>d == c | []=>false
def cmD:BS → BS | d :: r=>if d == 44 then r else d :: r | []=>[]
theorem hasC_cons (c d:UInt8) (r:BS):hasC c (d :: r) = (d == c):=rfl
theorem cmD_cons (d:UInt8) (r:BS):cmD (d :: r) = if d == 44 then r else d :: r:=rfl
theorem hasPre (l:BS) (c:UInt8):Slite.HasPrefix (B l) ⟨#[c]⟩ = some (hasC c l):=by
  unfold Slite.HasPrefix
  have h1:(((⟨#[c]⟩:ByteArray)).size:Int) = 1:=rfl
  refine letV rfl (letV h1 ?_)
  cases l with
  | nil=>exact letF (decide_eq_false (by rw [size_B]; exact (by decide))) rfl
  | cons d r =>
    refine letT (decide_eq_true (by rw [size_B,List.length_cons]; omega)) (letV h1 (chkE ⟨by omega,by rw [size_B,List.length_cons]; omega⟩ (letV (show (B (d :: r)).extract 0 (1:Int).toNat = B [d] from ext_B _ _) (letV ?_ rfl))))
    rw [eqL,L_B]
    show ([d] == [c]) = (d == c)
    rw [Bool.eq_iff_iff,beq_iff_eq,beq_iff_eq]
    simp
theorem hasPre2 (l:BS) (c:UInt8):Strs.HasPrefix (B l) ⟨#[c]⟩ = some (hasC c l):=by
  unfold Strs.HasPrefix
  exact bindE (hasPre l c) rfl
theorem cutPre (l:BS):Strs.CutPrefix (B l) ⟨#[44]⟩ = some (B (cmD l),hasC 44 l):=by
  unfold Strs.CutPrefix
  have h:Slite.CutPrefix (B l) ⟨#[44]⟩ = some (B (cmD l),hasC 44 l):=by
    unfold Slite.CutPrefix
    refine bindE (hasPre l 44) ?_
    cases l with
    | nil=>exact letT rfl rfl
    | cons d r =>
      rw [hasC_cons,cmD_cons]
      cases hd:d == 44 with
      | false=>rw [if_neg (by simp)]; exact letT rfl rfl
      | true =>
        rw [if_pos rfl]
        refine letF rfl (letV (show _ = (1:Int) from rfl) (chkE ⟨by omega,by rw [size_B,List.length_cons]; omega⟩ (letV (show (B (d :: r)).extract (1:Int).toNat (B (d :: r)).size = B r from ext_D _ _) rfl)))
  exact bindE h rfl
theorem asc2:Asc ⟨#[32,10]⟩:=fun j b h=>by
  have:b ∈ ([32,10]:BS):=List.mem_of_getElem? h
  simp only [List.mem_cons,List.not_mem_nil,or_false] at this
  rcases this with rfl | rfl <;> decide
theorem asc4:Asc ⟨#[32,10,44,47]⟩:=fun j b h=>by
  have:b ∈ ([32,10,44,47]:BS):=List.mem_of_getElem? h
  simp only [List.mem_cons,List.not_mem_nil,or_false] at this
  rcases this with rfl | rfl | rfl | rfl <;> decide
theorem asc1:Asc ⟨#[48]⟩:=fun j b h=>by
  have:b ∈ ([48]:BS):=List.mem_of_getElem? h
  simp only [List.mem_cons,List.not_mem_nil,or_false] at this
  subst this; decide
theorem asc10:Asc ⟨#[48,49,50,51,52,53,54,55,56,57]⟩:=fun j b h=>by
  have:b ∈ cs10:=List.mem_of_getElem? h
  have:dgt b = true:=by rw [← cs10_dgt]; exact List.contains_iff_mem.2 this
  have:=dgt_b this
  omega
theorem blanks_p (l:BS):Lst.reader.blanks (B l) = some (B (skB l)):=by
  unfold Lst.reader.blanks
  refine bindE (a:=B (skB l)) ?_ rfl
  unfold Strs.TrimLeft
  exact chkE ⟨by decide,asc2⟩ (by rw [L_B]; exact congrArg some (congrArg B (trimLeft_bl l)))
theorem ended_p (l:BS):Lst.reader.ended (B l) = some (B (skB l),skB l == [],hasC 47 (skB l)):=by
  unfold Lst.reader.ended
  refine bindE (blanks_p l) (letV (y:=skB l == []) ?_ (bindE (hasPre2 _ _) rfl))
  rw [eqL,L_B]; rfl
theorem comma_p (l:BS):Lst.reader.comma (B l) = some (B (cmD (skB l)),hasC 44 (skB l)):=by
  unfold Lst.reader.comma
  exact bindE (blanks_p l) (bindE (cutPre _) rfl)
def repS (s:BS):Option (Nat × BS):=match s.dropWhile nStar with
  | []=>some (1,s)
  | _ :: y=>if (s.takeWhile nStar).all dgt = true ∧ 1 ≤ dvl 0 (s.takeWhile nStar) ∧ dvl 0 (s.takeWhile nStar) ≤ 999 then some (dvl 0 (s.takeWhile nStar),y) else none
def itS:Option (Nat × BS) → listing.item × Int
  | some (n,y)=>(⟨n,B y⟩,0)
  | none=>(⟨0,⟨#[]⟩⟩,3)
theorem hasC_tok {q:BS} (h:hasC 44 q = true):tokL q = [] ∧ rstL q = q:=by
  cases q with
  | nil=>cases h
  | cons c r =>
    have:c = 44:=beq_iff_eq.1 h
    subst this
    exact ⟨rfl,rfl⟩
theorem Good.tok {l:BS} (h:Good l):(tokL l).length ≤ 8000:=by
  have:=congrArg List.length (tok_app l)
  rw [List.length_append] at this
  have:=h.2
  omega
theorem atoi_run (d:BS) (h:d.length ≤ 8000):(∃ v:Int,Lib.atoiAll d = .ok v ∧ Strconv.Atoi (B d) = some (v,true)) ∨ ((∀ v,Lib.atoiAll d ≠ .ok v) ∧ ∃ v,Strconv.Atoi (B d) = some (v,false)):=by
  unfold Strconv.Atoi
  rw [chk_pos (by rw [size_B]; omega),L_B]
  cases hv:Lib.atoiAll d with
  | ok v=>exact .inl ⟨v,rfl,rfl⟩
  | _=>exact .inr ⟨fun v e=>(by cases e),_,rfl⟩
theorem nextT (q:BS) (hg:Good q) (hq:skB q = q):Lst.reader.next_ (B q) = some (B (cmD (skB (rstL q))),(itS (repS (tokL q))).1,(itS (repS (tokL q))).2):=by
  unfold Lst.reader.next_
  have hc:=comma_p q
  rw [hq] at hc
  refine bindE hc ?_
  cases hh:hasC 44 q with
  | true =>
    obtain ⟨h1,h2⟩:=hasC_tok hh
    rw [h1,h2,hq]
    rfl
  | false =>
    have hcm:cmD q = q:=by
      cases q with
      | nil=>rfl
      | cons c r =>
        have:(c == 44) = false:=hh
        rw [cmD_cons,if_neg (by rw [this]; simp)]
    rw [hcm]
    have hlen:=hg.2
    have htk:=hg.tok
    have hix:Strs.IndexAny (B (q ++ [32])) ⟨#[32,10,44,47]⟩ = some (((tokL q).length:Nat):Int):=by
      unfold Strs.IndexAny
      refine chkE ⟨?_,by decide,?_,asc4⟩ ?_
      · rw [size_B,List.length_append,List.length_singleton]; omega
      · intro j b hb
        have:b ∈ q ++ [32]:=List.mem_of_getElem? hb
        rcases List.mem_append.1 this with h | h
        · exact okT_asc (List.all_eq_true.1 hg.1 _ h)
        · rw [List.mem_singleton.1 h]; decide
      · rw [L_B]; exact congrArg some (indexAny_del q)
    have hle:(tokL q).length ≤ q.length:=by
      have:=congrArg List.length (tok_app q)
      rw [List.length_append] at this
      omega
    have hin:0 ≤ (((tokL q).length:Nat):Int) ∧ (((tokL q).length:Nat):Int) ≤ ((B q).size:Int):=⟨by omega,by rw [size_B]; omega⟩
    have e1:(B q).extract 0 (((tokL q).length:Nat):Int).toNat = B (tokL q):=by
      rw [Int.toNat_natCast,ext_B,L_B,take_tok]
    have e2:(B q).extract (((tokL q).length:Nat):Int).toNat (B q).size = B (rstL q):=by
      rw [Int.toNat_natCast,ext_D,L_B,drop_tok]
    refine bifF rfl (chkE ?_ (letV (show _ = B (q ++ [32]) from B_appR q [32]) (bindE hix (chkE hin (letV e1 (chkE hin (letV e2 (bindE (comma_p _) ?_))))))))
    · show (((q.length + 1:Nat)):Int) ≤ _
      omega
    have hct:Strs.Cut (B (tokL q)) ⟨#[42]⟩ = some (B (Lib.cut (tokL q) [42]).1,B (Lib.cut (tokL q) [42]).2.1,(Lib.cut (tokL q) [42]).2.2):=by
      unfold Strs.Cut
      exact chkE (by rw [size_B]; omega) (by rw [L_B]; rfl)
    refine bindE hct ?_
    rw [cut_star]
    unfold repS
    cases hd:(tokL q).dropWhile nStar with
    | nil=>exact letT rfl rfl
    | cons z y =>
      have htl:(List.takeWhile nStar (tokL q)).length ≤ 8000:=Nat.le_trans ((List.takeWhile_prefix _).length_le) htk
      generalize List.takeWhile nStar (tokL q) = m at htl
      refine letF rfl ?_
      have htz:Strs.TrimLeft (B m) ⟨#[48]⟩ = some (B (m.dropWhile (· == 48))):=by
        unfold Strs.TrimLeft
        refine chkE ⟨by decide,asc1⟩ ?_
        rw [L_B]
        unfold Lib.trimLeftS
        refine congrArg some (congrArg B (congrArg (fun f=>List.dropWhile f m) (funext fun c=>?_)))
        show ([48]:BS).contains c = _
        simp [List.contains,List.elem]
        cases c == 48 <;> rfl
      refine bindE htz ?_
      have hdl:(m.dropWhile (· == 48)).length ≤ 8000:=Nat.le_trans ((List.dropWhile_suffix _).length_le) htl
      have htr:∃ t,Strs.Trim (B (m.dropWhile (· == 48))) ⟨#[48,49,50,51,52,53,54,55,56,57]⟩ = some (B t) ∧ (t = [] ↔ m.all dgt = true):=by
        refine ⟨Lib.trimS (m.dropWhile (· == 48)) cs10,?_,by rw [trim10,all_zeros]⟩
        unfold Strs.Trim
        exact chkE ⟨by rw [size_B]; omega,by decide,asc10⟩ (by rw [L_B]; rfl)
      obtain ⟨t,ht,ht2⟩:=htr
      simp only [List.length_cons]
      rcases atoi_run (m.dropWhile (· == 48)) hdl with ⟨v,hv,hrun⟩ | ⟨hv,v,hrun⟩
      · refine bindE hrun (bifT rfl (bindE ht ?_))
        by_cases hnil:t = []
        · have ha:=ht2.1 hnil
          subst hnil
          refine letF (by rw [eqL]; rfl) ?_
          rcases atoi_zeros m with ⟨u,hu1,hu2,hu3,hu4⟩ | h | ⟨h,_⟩
          · rw [hv] at hu2
            injection hu2 with hu2
            subst hu2
            rw [hu4]
            refine letF (decide_eq_false (by omega)) ?_
            by_cases h9:u ≤ 999
            · rw [if_pos ⟨ha,hu1,h9⟩]
              exact letV (decide_eq_false (by omega)) rfl
            · rw [if_neg (by omega)]
              exact letV (decide_eq_true (by omega)) rfl
          · rw [all_zeros] at h; rw [h] at ha; cases ha
          · exact absurd hv (h v)
        · rw [if_neg (fun h=>hnil (ht2.2 h.1))]
          refine letT ?_ rfl
          rw [eqL]
          cases t with
          | nil=>exact absurd rfl hnil
          | cons=>rfl
      · refine bindE hrun (bifF rfl ?_)
        rw [if_neg ?_]
        · rfl
        · intro ⟨h1,h2,h3⟩
          rcases atoi_zeros m with ⟨u,_,hu2,_⟩ | h | ⟨_,h⟩
          · exact hv _ hu2
          · rw [all_zeros] at h; rw [h] at h1; cases h1
          · omega
end Go.Q
