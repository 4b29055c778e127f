import Derived.Test.YtoecgpemlfoogaaGreatDoorFW2
namespace Go.Q
open Go
set_option maxRecDepth 100000
set_option maxHeartbeats 4000000
def headN (n:Nat):BS:=if n = 0 then [] else lbl n ++ [32]
def rowN (x:api.Line):BS:=cut 100 ampN (headN x.Label.toNat ++ L x.Text)
def rowO (x:api.Line):BS:=pad6 (lbl x.Label.toNat) ++ cut 66 (10 :: col6) (L x.Text)
theorem okL {x:api.Line} (h:okLine x = true):0 ≤ x.Label ∧ x.Label ≤ 99999 ∧ x.Text.size ≤ 8000 ∧ stOK (L x.Text) = true:=by
  unfold okLine at h
  simp only [Bool.and_eq_true,Bool.not_eq_true',decide_eq_false_iff_not] at h
  exact ⟨by omega,by omega,by omega,h.2.2.2⟩
theorem lbl_le {n:Int} (h:n ≤ 99999):(lbl n.toNat).length ≤ 5:=lbl_len 5 _ (by omega)
theorem headN_le {n:Int} (h:n ≤ 99999):(headN n.toNat).length ≤ 6:=by
  unfold headN
  split
  · exact Nat.zero_le _
  · have:=lbl_le h
    rw [List.length_append]; simp only [List.length_cons,List.length_nil]; omega
theorem rowN_len {x:api.Line} (h:okLine x = true):(rowN x).length ≤ 65000:=by
  obtain ⟨_,h2,h3,_⟩:=okL h
  have h4:=headN_le h2
  have h5:=cut_len (n:=100) (sep:=ampN) (by decide) (by decide) _ (headN x.Label.toNat ++ L x.Text) (Nat.le_refl _)
  unfold rowN
  rw [List.length_append,L_len] at h5
  omega
theorem rowO_len {x:api.Line} (h:okLine x = true):(rowO x).length ≤ 65000:=by
  obtain ⟨_,h2,h3,_⟩:=okL h
  have h4:=lbl_le h2
  have h5:=cut_len (n:=66) (sep:=10 :: col6) (by decide) (by decide) _ (L x.Text) (Nat.le_refl _)
  unfold rowO
  rw [List.length_append,pad6_len]
  rw [L_len] at h5
  omega
theorem new1_j0 (s:BS) (hs:s.length ≤ 8100):Src.WriteNew_1.j0 (B s) = some (B (cut 100 ampN s)):=by
  have:=newLoop s.length s [] (Nat.le_refl _) (by simp only [List.length_nil]; omega)
  rw [List.nil_append] at this
  exact this
theorem new1_eq {x:api.Line} (h:okLine x = true):Src.WriteNew_1 x = some (B (rowN x)):=by
  obtain ⟨h1,h2,h3,_⟩:=okL h
  have h4:=headN_le h2
  have h6:=lbl_le h2
  unfold Src.WriteNew_1 rowN headN
  by_cases h5:x.Label > 0
  · rw [if_neg (by omega)]
    refine letT (decide_eq_true h5) (bindE (itoa_eq h5 h2) (chkE (lim2 (y:=[32]) ?_) (letV (ap_B (y:=[32])) ?_)))
    · simp only [List.length_cons,List.length_nil]; omega
    · have e:B (lbl x.Label.toNat ++ [32]) ++ x.Text = B (lbl x.Label.toNat ++ [32] ++ L x.Text):=by rw [← B_appR _ (L x.Text),B_L]
      refine chkE ?_ (letV e (new1_j0 _ ?_))
      · rw [size_B,List.length_append]; simp only [List.length_cons,List.length_nil]; omega
      · simp only [List.length_append,List.length_cons,List.length_nil,L_len]; omega
  · rw [if_pos (by omega),List.nil_append]
    refine letF (decide_eq_false h5) ?_
    have:=new1_j0 (L x.Text) (by rw [L_len]; omega)
    rwa [B_L] at this
theorem rep_eq {k:Int} {n:Nat} (hk:k = n) (hn:n ≤ 6):Strs.Repeat ⟨#[32]⟩ k = some (B (List.replicate n 32)):=by
  subst hk
  have hs:(⟨#[32]⟩:ByteArray).size = 1:=rfl
  unfold Strs.Repeat
  refine chkE ⟨by omega,by omega,by rw [hs,Int.toNat_natCast]; omega⟩ ?_
  rw [Int.toNat_natCast]
  match n,hn with
  | 0,_=>rfl
  | 1,_=>rfl
  | 2,_=>rfl
  | 3,_=>rfl
  | 4,_=>rfl
  | 5,_=>rfl
  | 6,_=>rfl
  | n + 7,h=>omega
theorem old1_j0 (a b:Int) (s t:BS) (hs:s.length ≤ 6) (ht:t.length ≤ 8000):Src.WriteOld_1.j0 a (B t) b (B s) = some (B (pad6 s ++ cut 66 (10 :: col6) t)):=by
  unfold Src.WriteOld_1.j0
  have h5:=pad6_len s
  refine letV (y:=(s.length:Int)) (by rw [size_B]) (letV (y:=((6 - s.length:Nat):Int)) ?_ (bindE (rep_eq rfl (by omega)) (chkE (lim2 ?_) (letV (ap_B (y:=List.replicate (6 - s.length) 32)) (oldLoop t.length t (pad6 s) (Nat.le_refl _) (by omega))))))
  · rw [w64n (by omega) (by omega)]; omega
  · rw [List.length_replicate]; omega
theorem old1_eq {x:api.Line} (h:okLine x = true):Src.WriteOld_1 x = some (B (rowO x)):=by
  obtain ⟨h1,h2,h3,_⟩:=okL h
  have h4:=lbl_le h2
  unfold Src.WriteOld_1 rowO
  have e:∀ s:BS,s.length ≤ 6 → Src.WriteOld_1.j0 x.Label x.Text x.At (B s) = some (B (pad6 s ++ cut 66 (10 :: col6) (L x.Text))):=by
    intro s hs
    have:=old1_j0 x.Label x.At s (L x.Text) hs (by rw [L_len]; omega)
    rwa [B_L] at this
  by_cases h5:x.Label > 0
  · exact letT (decide_eq_true h5) (bindE (itoa_eq h5 h2) (e _ (by omega)))
  · refine letF (decide_eq_false h5) ?_
    rw [show x.Label = 0 by omega]
    have:=e [] (by decide)
    rw [show x.Label = 0 by omega] at this
    exact this
def flatW (row:api.Line → BS) (l:List api.Line):BS:=l.flatMap row
theorem flatW_cons (row:api.Line → BS) (x:api.Line) (l:List api.Line):flatW row (x :: l) = row x ++ flatW row l:=List.flatMap_cons
def wr (row:api.Line → BS) (l:List api.Line):ByteArray × Int :=
  if validS l = true then (if 8000 < (flatW row l).length then (⟨#[]⟩,4) else (B (flatW row l),0)) else (⟨#[]⟩,2)
theorem writeL_eq {row:api.Line → BS} {one:api.Line → Option ByteArray}:∀ {l:List api.Line} (out:BS),(∀ x ∈ l,one x = some (B (row x)) ∧ (row x).length ≤ 65000) → out.length ≤ 8000 →
    writeL one l out = some (if 8000 < (out ++ flatW row l).length then (⟨#[]⟩,4) else (B (out ++ flatW row l),0))
  | [],out,_,ho=>by
    unfold writeL
    rw [show flatW row [] = [] from rfl,List.append_nil,if_neg (by omega)]
  | x :: l,out,h,ho=>by
    obtain ⟨h1,h2⟩:=h x (List.mem_cons_self ..)
    unfold writeL
    rw [h1,Option.bind_some,size_B,if_pos (by omega),flatW_cons,L_B]
    by_cases hx:8000 < out.length + (row x).length
    · rw [if_pos hx,if_pos (by simp only [List.length_append]; omega)]
    · rw [if_neg hx,writeL_eq (out ++ row x) (fun y hy=>h y (List.mem_cons_of_mem _ hy)) (by rw [List.length_append]; omega),List.append_assoc]
theorem allOk {l:List api.Line} (h:validS l = true):(∀ x ∈ l,okLine x = true) ∧ l.length ≤ 200:=by
  unfold validS at h
  rw [Bool.and_eq_true,List.all_eq_true,decide_eq_true_eq] at h
  exact h
theorem write_eq {row:api.Line → BS} {one:api.Line → Option ByteArray} (l:List api.Line) (hl:l.length ≤ 300) (h:∀ x,okLine x = true → one x = some (B (row x)) ∧ (row x).length ≤ 65000) :
    Src.write l one = some (wr row l):=by
  unfold Src.write wr
  rw [valid_eq l (by omega),Option.bind_some]
  refine chkE (by omega) ?_
  cases hv:validS l with
  | false=>rw [cond_false,if_neg (by decide)]
  | true=>rw [cond_true,if_pos rfl,writeL_eq (row:=row) [] (fun x hx=>h x ((allOk hv).1 x hx)) (by decide),List.nil_append]
theorem writeNew_eq (l:List api.Line) (hl:l.length ≤ 300):Src.WriteNew l = some (wr rowN l):=by
  unfold Src.WriteNew
  rw [write_eq l hl (fun x hx=>⟨new1_eq hx,rowN_len hx⟩)]; rfl
theorem writeOld_eq (l:List api.Line) (hl:l.length ≤ 300):Src.WriteOld l = some (wr rowO l):=by
  unfold Src.WriteOld
  rw [write_eq l hl (fun x hx=>⟨old1_eq hx,rowO_len hx⟩)]; rfl
def fin (s:BS):ByteArray × Int:=if 8000 < s.length then (⟨#[]⟩,4) else (B s,0)
theorem isLong_l0 (l:List api.Line) (hl:l.length < 9223372036854775808):∀ (m i:Nat) (n:Int),i + m = l.length → ∃ b,Law3.isLong.l0 l n (i:Int) = some b ∧ (b = false → l.length ≤ 300):=by
  intro m
  induction m with
  | zero =>
    intro i n hi
    have e:∀ {b},(letk ((l.length:Int)) fun t20=>letk (decide (t20 > (300:Int))) fun t21=>bif t21 then some true else letk (decide (n > (9000:Int))) fun t24=>some t24) = some b → Law3.isLong.l0 l n (i:Int) = some b:=by
      intro b h
      unfold Law3.isLong.l0
      refine loopO_end ?_
      show Law3.isLong.s0 l n (i:Int) = _
      unfold Law3.isLong.s0
      exact letV rfl (letF (decide_eq_false (by omega)) (mapE h))
    by_cases h:l.length > 300
    · exact ⟨true,e (letV rfl (letT (decide_eq_true (by omega)) rfl)),fun h=>by cases h⟩
    · exact ⟨_,e (letV rfl (letF (decide_eq_false (by omega)) rfl)),fun _=>by omega⟩
  | succ m ih =>
    intro i n hi
    have hil:i < l.length:=by omega
    obtain ⟨b,h1,h2⟩:=ih (i + 1) (IntKind.i64.wrap (n + (l[i].Text.size:Int))) (by omega)
    refine ⟨b,?_,h2⟩
    unfold Law3.isLong.l0
    refine loopO_next (t:=(IntKind.i64.wrap (n + (l[i].Text.size:Int)),((i + 1:Nat):Int))) ?_ h1
    show Law3.isLong.s0 l n (i:Int) = _
    unfold Law3.isLong.s0
    exact letV rfl (letT (decide_eq_true (by omega)) (chkE (by omega) (bindE (by rw [Int.toNat_natCast,List.getElem?_eq_getElem hil]) (letV rfl (letV rfl (letV (w64n (by omega) (by omega)) rfl))))))
theorem isLong_eq (l:List api.Line) (hl:l.length < 9223372036854775808):∃ b,Law3.isLong l = some b ∧ (b = false → l.length ≤ 300):=isLong_l0 l hl l.length 0 0 (by omega)
end Go.Q
