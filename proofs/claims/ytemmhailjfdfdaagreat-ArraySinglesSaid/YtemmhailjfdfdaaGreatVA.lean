import Derived.Test.YtemmhailjfdfdaaGreatRB
import Derived.Test.YtemmhailjfdfdaaGreatPC
namespace Go.Q
open Go
set_option maxRecDepth 100000
set_option maxHeartbeats 4000000
def FOk (p w:Nat) (a:Int):Prop:=I64 a ∧ bitsOk p w a
theorem pack_ok {p w:Nat} (h:OkS p w) {sign:Int} {E f:Nat} (hs:sign = 0 ∨ sign = 1) (hE:E < 2 ^ w) (hf:f < 2 ^ (p - 1)):FOk p w (packS p w sign E f):=by
  obtain ⟨h1,h2,h3,h4,h5,h6⟩:=h.facts
  have hs1:sign.toNat ≤ 1:=by omega
  have hE2:E * 2 ^ (p - 1) + 2 ^ (p - 1) ≤ 2 ^ (p + w - 1):=by
    have:(E + 1) * 2 ^ (p - 1) ≤ 2 ^ w * 2 ^ (p - 1):=Nat.mul_le_mul_right _ hE
    rw [← Nat.pow_add,Nat.add_mul,Nat.one_mul,show w + (p - 1) = p + w - 1 by omega] at this
    exact this
  have hs2:sign.toNat * 2 ^ (p + w - 1) ≤ 1 * 2 ^ (p + w - 1):=Nat.mul_le_mul_right _ hs1
  have e:2 ^ (p + w) = 2 ^ (p + w - 1) * 2:=by rw [← Nat.pow_succ]; congr 1; omega
  have hv:sign.toNat * 2 ^ (p + w - 1) + E * 2 ^ (p - 1) + f < 2 ^ (p + w):=by omega
  have h64:2 ^ (p + w) ≤ 18446744073709551616:=by rw [← pow64]; exact Nat.pow_le_pow_right (by decide) h3
  obtain ⟨w1,w2⟩:=wrap_mod (v:=sign.toNat * 2 ^ (p + w - 1) + E * 2 ^ (p - 1) + f) (by omega)
  refine ⟨w2,?_⟩
  unfold bitsOk packS
  rw [w1,Int.toNat_natCast]
  omega
theorem zero_ok {p w:Nat} (h:OkS p w) {s:Int} (hs:s = 0 ∨ s = 1):FOk p w (zeroS p w s):=pack_ok h hs (Nat.two_pow_pos _) (Nat.two_pow_pos _)
theorem quiet_ok {p w:Nat} (h:OkS p w):FOk p w (quietS p w):=pack_ok h (.inl rfl) (by have:=Nat.two_pow_pos w; omega) (Nat.pow_lt_pow_right (by decide) (by have:=h.facts; omega))
end Go.Q
namespace Go.Q
open Go
set_option maxRecDepth 100000
set_option maxHeartbeats 4000000
def N1 (a:Int):Bool:=decide (a = 1 ∨ a = 3 ∨ a = 4)
def K1 (a:Int):Bool:=decide (1 ≤ a ∧ a ≤ 4)
theorem b1 (a b:Int):(a == b) = decide (a = b):=by
  by_cases h:a = b
  · rw [decide_eq_true h]; exact beq_iff_eq.2 h
  · rw [decide_eq_false h]; exact beq_eq_false_iff_ne.2 h
theorem nb1 (a b:Int):(a != b) = !decide (a = b):=by
  show (!(a == b)) = _
  rw [b1]
theorem aBytes_eq (k:Int):Arr.bytes k = some (if k = 3 then 4 else if k = 4 then 8 else 0):=by
  unfold Arr.bytes
  simp only [letkE,b1]
  by_cases h3:k = 3
  · rw [decide_eq_true h3,if_pos h3]; rfl
  · rw [decide_eq_false h3,if_neg h3]
    by_cases h4:k = 4
    · rw [decide_eq_true h4,if_pos h4]; rfl
    · rw [decide_eq_false h4,if_neg h4]; rfl
theorem rBytes_eq (k:Int):Ref7.Bytes k = some (if k = 3 then 4 else if k = 4 then 8 else 0):=aBytes_eq k
theorem aNum_eq (k:Int):Arr.isNumber k = some (N1 k):=by
  unfold Arr.isNumber N1
  simp only [letkE,b1,aBytes_eq]
  by_cases h1:k = 1
  · subst h1; rfl
  · by_cases h3:k = 3
    · subst h3; rfl
    · by_cases h4:k = 4
      · subst h4; rfl
      · rw [decide_eq_false h1,if_neg h3,if_neg h4,decide_eq_false (by omega)]; rfl
theorem rNum_eq (k:Int):Ref7.isNumber k = some (N1 k):=by
  unfold Ref7.isNumber N1
  simp only [letkE,b1]
  by_cases h1:k = 1
  · subst h1; rfl
  · by_cases h3:k = 3
    · subst h3; rfl
    · by_cases h4:k = 4
      · subst h4; rfl
      · rw [decide_eq_false h1,decide_eq_false h3,decide_eq_false h4,decide_eq_false (by omega)]; rfl
theorem rKnd_eq (k:Int):Ref7.isKind k = some (K1 k):=by
  unfold Ref7.isKind K1
  simp only [letkE]
  by_cases h1:k ≥ 1
  · rw [decide_eq_true h1,condT]
    congr 1
    rw [decide_eq_decide]; omega
  · rw [decide_eq_false h1,condF,decide_eq_false (by omega)]
theorem eqW (s:ByteArray) (t:ByteArray):(s.toList == t.toList) = decide (L s = L t):=by
  rw [eqL]
  by_cases h:L s = L t
  · rw [decide_eq_true h]; exact beq_iff_eq.2 h
  · rw [decide_eq_false h]; exact beq_eq_false_iff_ne.2 h
def opC (l:List UInt8):Nat :=
  if l = [43] then 1 else if l = [45] then 1 else if l = [42] then 2 else if l = [47] then 2 else if l = [61,61] then 3 else if l = [47,61] then 3 else if l = [60] then 4 else if l = [60,61] then 4 else if l = [62] then 4 else if l = [62,61] then 4 else if l = [46,97,110,100,46] then 5 else if l = [46,111,114,46] then 5 else if l = [46,110,111,116,46] then 6 else 0
def kB (a:Int):Nat:=if a = 0 then 3 else if N1 a = true then 1 else if a = 2 then 2 else 0
theorem kB_lt (a:Int):kB a < 4:=by
  unfold kB
  repeat' split
  all_goals omega
theorem N1_kB (a:Int):N1 a = (kB a == 1):=by
  unfold kB
  by_cases h0:a = 0
  · subst h0; rfl
  · rw [if_neg h0]
    cases h:N1 a
    · rw [if_neg (by decide)]; split <;> rfl
    · rfl
theorem two_kB (a:Int):decide (a = 2) = (kB a == 2):=by
  by_cases h2:a = 2
  · subst h2; rfl
  · rw [decide_eq_false h2]
    unfold kB
    rw [if_neg h2]
    repeat' split
    all_goals rfl
theorem zero_kB (a:Int):decide (a = 0) = (kB a == 3):=by
  by_cases h2:a = 0
  · subst h2; rfl
  · rw [decide_eq_false h2]
    unfold kB
    rw [if_neg h2]
    repeat' split
    all_goals rfl
theorem K1_kB (a:Int):K1 a = (kB a == 1 || kB a == 2):=by
  rw [← N1_kB,← two_kB]
  unfold K1 N1
  rw [Bool.eq_iff_iff]
  simp only [Bool.or_eq_true,decide_eq_true_eq]
  omega
def kindC (c:Nat) (a b:Int):Int :=
  bif kB b == 3 then (bif c == 1 && kB a == 1 then a else bif c == 6 && kB a == 2 then 2 else 0)
  else bif (c == 1 || c == 2) && (kB a == 1 && kB b == 1) then (if b > a then b else a)
  else bif (c == 3 || c == 4) && (kB a == 1 && kB b == 1) then 2
  else bif (c == 3 || c == 5) && (kB a == 2 && kB b == 2) then 2 else 0
def l4:List BS:=[[43],[45],[42],[47]]
def l6:List BS:=[[61,61],[47,61],[60],[60,61],[62],[62,61]]
def l4b:List BS:=[[61,61],[47,61],[46,97,110,100,46],[46,111,114,46]]
theorem op_cases (l:List UInt8):l = [43] ∨ l = [45] ∨ l = [42] ∨ l = [47] ∨ l = [61,61] ∨ l = [47,61] ∨ l = [60] ∨ l = [60,61] ∨ l = [62] ∨ l = [62,61] ∨ l = [46,97,110,100,46] ∨ l = [46,111,114,46] ∨ l = [46,110,111,116,46] ∨ (l ≠ [43] ∧ l ≠ [45] ∧ l ≠ [42] ∧ l ≠ [47] ∧ l ≠ [61,61] ∧ l ≠ [47,61] ∧ l ≠ [60] ∧ l ≠ [60,61] ∧ l ≠ [62] ∧ l ≠ [62,61] ∧ l ≠ [46,97,110,100,46] ∧ l ≠ [46,111,114,46] ∧ l ≠ [46,110,111,116,46]):=by
  by_cases h0:l = [43]
  · exact .inl h0
  by_cases h1:l = [45]
  · exact .inr (.inl h1)
  by_cases h2:l = [42]
  · exact .inr (.inr (.inl h2))
  by_cases h3:l = [47]
  · exact .inr (.inr (.inr (.inl h3)))
  by_cases h4:l = [61,61]
  · exact .inr (.inr (.inr (.inr (.inl h4))))
  by_cases h5:l = [47,61]
  · exact .inr (.inr (.inr (.inr (.inr (.inl h5)))))
  by_cases h6:l = [60]
  · exact .inr (.inr (.inr (.inr (.inr (.inr (.inl h6))))))
  by_cases h7:l = [60,61]
  · exact .inr (.inr (.inr (.inr (.inr (.inr (.inr (.inl h7)))))))
  by_cases h8:l = [62]
  · exact .inr (.inr (.inr (.inr (.inr (.inr (.inr (.inr (.inl h8))))))))
  by_cases h9:l = [62,61]
  · exact .inr (.inr (.inr (.inr (.inr (.inr (.inr (.inr (.inr (.inl h9)))))))))
  by_cases h10:l = [46,97,110,100,46]
  · exact .inr (.inr (.inr (.inr (.inr (.inr (.inr (.inr (.inr (.inr (.inl h10))))))))))
  by_cases h11:l = [46,111,114,46]
  · exact .inr (.inr (.inr (.inr (.inr (.inr (.inr (.inr (.inr (.inr (.inr (.inl h11)))))))))))
  by_cases h12:l = [46,110,111,116,46]
  · exact .inr (.inr (.inr (.inr (.inr (.inr (.inr (.inr (.inr (.inr (.inr (.inr (.inl h12))))))))))))
  exact .inr (.inr (.inr (.inr (.inr (.inr (.inr (.inr (.inr (.inr (.inr (.inr (.inr ⟨h0,h1,h2,h3,h4,h5,h6,h7,h8,h9,h10,h11,h12⟩))))))))))))
theorem aKind_eq (op:ByteArray) (a b:Int):Arr.Kind op a b = some (kindC (opC (L op)) a b):=by
  have c4:=contains_eq l4 op (by decide)
  have c6:=contains_eq l6 op (by decide)
  have c4b:=contains_eq l4b op (by decide)
  have e4:([⟨#[43]⟩,⟨#[45]⟩,⟨#[42]⟩,⟨#[47]⟩]:List ByteArray) = BL l4:=rfl
  have e6:([⟨#[61,61]⟩,⟨#[47,61]⟩,⟨#[60]⟩,⟨#[60,61]⟩,⟨#[62]⟩,⟨#[62,61]⟩]:List ByteArray) = BL l6:=rfl
  have e4b:([⟨#[61,61]⟩,⟨#[47,61]⟩,⟨#[46,97,110,100,46]⟩,⟨#[46,111,114,46]⟩]:List ByteArray) = BL l4b:=rfl
  unfold Arr.Kind Arr.Kind.j0 Arr.Kind.j1 Arr.Kind.j2 Arr.Kind.j3 kindC
  simp only [letkE,b1,eqW,aNum_eq,e4,e6,e4b,c4,c6,c4b,bindS,N1_kB,two_kB,zero_kB,show L (⟨#[43]⟩:ByteArray) = [43] from rfl,show L (⟨#[45]⟩:ByteArray) = [45] from rfl,show L (⟨#[46,110,111,116,46]⟩:ByteArray) = [46,110,111,116,46] from rfl]
  clear c4 c6 c4b e4 e6 e4b
  generalize L op = l
  have hx:=kB_lt a
  have hy:=kB_lt b
  have h2:kB a = 2 → a = 2:=fun h=>of_decide_eq_true ((two_kB a).trans (by rw [h]; rfl))
  generalize kB a = x at *
  generalize kB b = y at *
  rcases op_cases l with rfl | rfl | rfl | rfl | rfl | rfl | rfl | rfl | rfl | rfl | rfl | rfl | rfl | ⟨h0,h1,h2,h3,h4,h5,h6,h7,h8,h9,h10,h11,h12⟩
  · match x,y,hx,hy with
    | 0,0,_,_ | 0,1,_,_ | 0,2,_,_ | 0,3,_,_=>rfl
    | 1,0,_,_ | 1,1,_,_ | 1,2,_,_ | 1,3,_,_=>rfl
    | 2,0,_,_ | 2,1,_,_ | 2,2,_,_ | 2,3,_,_=>rfl
    | 3,0,_,_ | 3,1,_,_ | 3,2,_,_ | 3,3,_,_=>rfl
    | n + 4,_,hx,_=>omega
    | _,n + 4,_,hy=>omega
  · match x,y,hx,hy with
    | 0,0,_,_ | 0,1,_,_ | 0,2,_,_ | 0,3,_,_=>rfl
    | 1,0,_,_ | 1,1,_,_ | 1,2,_,_ | 1,3,_,_=>rfl
    | 2,0,_,_ | 2,1,_,_ | 2,2,_,_ | 2,3,_,_=>rfl
    | 3,0,_,_ | 3,1,_,_ | 3,2,_,_ | 3,3,_,_=>rfl
    | n + 4,_,hx,_=>omega
    | _,n + 4,_,hy=>omega
  · match x,y,hx,hy with
    | 0,0,_,_ | 0,1,_,_ | 0,2,_,_ | 0,3,_,_=>rfl
    | 1,0,_,_ | 1,1,_,_ | 1,2,_,_ | 1,3,_,_=>rfl
    | 2,0,_,_ | 2,1,_,_ | 2,2,_,_ | 2,3,_,_=>rfl
    | 3,0,_,_ | 3,1,_,_ | 3,2,_,_ | 3,3,_,_=>rfl
    | n + 4,_,hx,_=>omega
    | _,n + 4,_,hy=>omega
  · match x,y,hx,hy with
    | 0,0,_,_ | 0,1,_,_ | 0,2,_,_ | 0,3,_,_=>rfl
    | 1,0,_,_ | 1,1,_,_ | 1,2,_,_ | 1,3,_,_=>rfl
    | 2,0,_,_ | 2,1,_,_ | 2,2,_,_ | 2,3,_,_=>rfl
    | 3,0,_,_ | 3,1,_,_ | 3,2,_,_ | 3,3,_,_=>rfl
    | n + 4,_,hx,_=>omega
    | _,n + 4,_,hy=>omega
  · match x,y,hx,hy with
    | 0,0,_,_ | 0,1,_,_ | 0,2,_,_ | 0,3,_,_=>rfl
    | 1,0,_,_ | 1,1,_,_ | 1,2,_,_ | 1,3,_,_=>rfl
    | 2,0,_,_ | 2,1,_,_ | 2,2,_,_ | 2,3,_,_=>rfl
    | 3,0,_,_ | 3,1,_,_ | 3,2,_,_ | 3,3,_,_=>rfl
    | n + 4,_,hx,_=>omega
    | _,n + 4,_,hy=>omega
  · match x,y,hx,hy with
    | 0,0,_,_ | 0,1,_,_ | 0,2,_,_ | 0,3,_,_=>rfl
    | 1,0,_,_ | 1,1,_,_ | 1,2,_,_ | 1,3,_,_=>rfl
    | 2,0,_,_ | 2,1,_,_ | 2,2,_,_ | 2,3,_,_=>rfl
    | 3,0,_,_ | 3,1,_,_ | 3,2,_,_ | 3,3,_,_=>rfl
    | n + 4,_,hx,_=>omega
    | _,n + 4,_,hy=>omega
  · match x,y,hx,hy with
    | 0,0,_,_ | 0,1,_,_ | 0,2,_,_ | 0,3,_,_=>rfl
    | 1,0,_,_ | 1,1,_,_ | 1,2,_,_ | 1,3,_,_=>rfl
    | 2,0,_,_ | 2,1,_,_ | 2,2,_,_ | 2,3,_,_=>rfl
    | 3,0,_,_ | 3,1,_,_ | 3,2,_,_ | 3,3,_,_=>rfl
    | n + 4,_,hx,_=>omega
    | _,n + 4,_,hy=>omega
  · match x,y,hx,hy with
    | 0,0,_,_ | 0,1,_,_ | 0,2,_,_ | 0,3,_,_=>rfl
    | 1,0,_,_ | 1,1,_,_ | 1,2,_,_ | 1,3,_,_=>rfl
    | 2,0,_,_ | 2,1,_,_ | 2,2,_,_ | 2,3,_,_=>rfl
    | 3,0,_,_ | 3,1,_,_ | 3,2,_,_ | 3,3,_,_=>rfl
    | n + 4,_,hx,_=>omega
    | _,n + 4,_,hy=>omega
  · match x,y,hx,hy with
    | 0,0,_,_ | 0,1,_,_ | 0,2,_,_ | 0,3,_,_=>rfl
    | 1,0,_,_ | 1,1,_,_ | 1,2,_,_ | 1,3,_,_=>rfl
    | 2,0,_,_ | 2,1,_,_ | 2,2,_,_ | 2,3,_,_=>rfl
    | 3,0,_,_ | 3,1,_,_ | 3,2,_,_ | 3,3,_,_=>rfl
    | n + 4,_,hx,_=>omega
    | _,n + 4,_,hy=>omega
  · match x,y,hx,hy with
    | 0,0,_,_ | 0,1,_,_ | 0,2,_,_ | 0,3,_,_=>rfl
    | 1,0,_,_ | 1,1,_,_ | 1,2,_,_ | 1,3,_,_=>rfl
    | 2,0,_,_ | 2,1,_,_ | 2,2,_,_ | 2,3,_,_=>rfl
    | 3,0,_,_ | 3,1,_,_ | 3,2,_,_ | 3,3,_,_=>rfl
    | n + 4,_,hx,_=>omega
    | _,n + 4,_,hy=>omega
  · match x,y,hx,hy with
    | 0,0,_,_ | 0,1,_,_ | 0,2,_,_ | 0,3,_,_=>rfl
    | 1,0,_,_ | 1,1,_,_ | 1,2,_,_ | 1,3,_,_=>rfl
    | 2,0,_,_ | 2,1,_,_ | 2,2,_,_ | 2,3,_,_=>rfl
    | 3,0,_,_ | 3,1,_,_ | 3,2,_,_ | 3,3,_,_=>rfl
    | n + 4,_,hx,_=>omega
    | _,n + 4,_,hy=>omega
  · match x,y,hx,hy with
    | 0,0,_,_ | 0,1,_,_ | 0,2,_,_ | 0,3,_,_=>rfl
    | 1,0,_,_ | 1,1,_,_ | 1,2,_,_ | 1,3,_,_=>rfl
    | 2,0,_,_ | 2,1,_,_ | 2,2,_,_ | 2,3,_,_=>rfl
    | 3,0,_,_ | 3,1,_,_ | 3,2,_,_ | 3,3,_,_=>rfl
    | n + 4,_,hx,_=>omega
    | _,n + 4,_,hy=>omega
  · match x,y,hx,hy,h2 with
    | 2,3,_,_,h=>rw [h rfl]; rfl
    | 0,0,_,_,_ | 0,1,_,_,_ | 0,2,_,_,_ | 0,3,_,_,_=>rfl
    | 1,0,_,_,_ | 1,1,_,_,_ | 1,2,_,_,_ | 1,3,_,_,_=>rfl
    | 2,0,_,_,_ | 2,1,_,_,_ | 2,2,_,_,_=>rfl
    | 3,0,_,_,_ | 3,1,_,_,_ | 3,2,_,_,_ | 3,3,_,_,_=>rfl
    | n + 4,_,hx,_,_=>omega
    | _,n + 4,_,hy,_=>omega
  · have m4:decide (l ∈ l4) = false:=decide_eq_false (by unfold l4; simp only [List.mem_cons,List.not_mem_nil,or_false,not_or]; exact ⟨h0,h1,h2,h3⟩)
    have m6:decide (l ∈ l6) = false:=decide_eq_false (by unfold l6; simp only [List.mem_cons,List.not_mem_nil,or_false,not_or]; exact ⟨h4,h5,h6,h7,h8,h9⟩)
    have m4b:decide (l ∈ l4b) = false:=decide_eq_false (by unfold l4b; simp only [List.mem_cons,List.not_mem_nil,or_false,not_or]; exact ⟨h4,h5,h10,h11⟩)
    have hc:opC l = 0:=by unfold opC; rw [if_neg h0,if_neg h1,if_neg h2,if_neg h3,if_neg h4,if_neg h5,if_neg h6,if_neg h7,if_neg h8,if_neg h9,if_neg h10,if_neg h11,if_neg h12]
    rw [m4,m6,m4b,hc,decide_eq_false h0,decide_eq_false h1,decide_eq_false h12]
    match x,y,hx,hy with
    | 0,0,_,_ | 0,1,_,_ | 0,2,_,_ | 0,3,_,_=>rfl
    | 1,0,_,_ | 1,1,_,_ | 1,2,_,_ | 1,3,_,_=>rfl
    | 2,0,_,_ | 2,1,_,_ | 2,2,_,_ | 2,3,_,_=>rfl
    | 3,0,_,_ | 3,1,_,_ | 3,2,_,_ | 3,3,_,_=>rfl
    | n + 4,_,hx,_=>omega
    | _,n + 4,_,hy=>omega
theorem rKind_eq (op:ByteArray) (a b:Int):Ref7.Kind op a b = some (kindC (opC (L op)) a b):=by
  unfold Ref7.Kind Ref7.Kind.j0 Ref7.Kind.j1 Ref7.Kind.j2 Ref7.Kind.j3 Ref7.Kind.j4 Ref7.Kind.j5 Ref7.Kind.j6 kindC
  simp only [letkE,b1,nb1,eqW,rNum_eq,rKnd_eq,bindS,K1_kB,N1_kB,two_kB,zero_kB,show L (⟨#[43]⟩:ByteArray) = [43] from rfl,show L (⟨#[45]⟩:ByteArray) = [45] from rfl,show L (⟨#[42]⟩:ByteArray) = [42] from rfl,show L (⟨#[47]⟩:ByteArray) = [47] from rfl,show L (⟨#[61,61]⟩:ByteArray) = [61,61] from rfl,show L (⟨#[47,61]⟩:ByteArray) = [47,61] from rfl,show L (⟨#[60]⟩:ByteArray) = [60] from rfl,show L (⟨#[60,61]⟩:ByteArray) = [60,61] from rfl,show L (⟨#[62]⟩:ByteArray) = [62] from rfl,show L (⟨#[62,61]⟩:ByteArray) = [62,61] from rfl,show L (⟨#[46,97,110,100,46]⟩:ByteArray) = [46,97,110,100,46] from rfl,show L (⟨#[46,111,114,46]⟩:ByteArray) = [46,111,114,46] from rfl,show L (⟨#[46,110,111,116,46]⟩:ByteArray) = [46,110,111,116,46] from rfl]
  generalize L op = l
  have hx:=kB_lt a
  have hy:=kB_lt b
  generalize kB a = x at *
  generalize kB b = y at *
  rcases op_cases l with rfl | rfl | rfl | rfl | rfl | rfl | rfl | rfl | rfl | rfl | rfl | rfl | rfl | ⟨h0,h1,h2,h3,h4,h5,h6,h7,h8,h9,h10,h11,h12⟩
  · match x,y,hx,hy with
    | 0,0,_,_ | 0,1,_,_ | 0,2,_,_ | 0,3,_,_=>rfl
    | 1,0,_,_ | 1,1,_,_ | 1,2,_,_ | 1,3,_,_=>rfl
    | 2,0,_,_ | 2,1,_,_ | 2,2,_,_ | 2,3,_,_=>rfl
    | 3,0,_,_ | 3,1,_,_ | 3,2,_,_ | 3,3,_,_=>rfl
    | n + 4,_,hx,_=>omega
    | _,n + 4,_,hy=>omega
  · match x,y,hx,hy with
    | 0,0,_,_ | 0,1,_,_ | 0,2,_,_ | 0,3,_,_=>rfl
    | 1,0,_,_ | 1,1,_,_ | 1,2,_,_ | 1,3,_,_=>rfl
    | 2,0,_,_ | 2,1,_,_ | 2,2,_,_ | 2,3,_,_=>rfl
    | 3,0,_,_ | 3,1,_,_ | 3,2,_,_ | 3,3,_,_=>rfl
    | n + 4,_,hx,_=>omega
    | _,n + 4,_,hy=>omega
  · match x,y,hx,hy with
    | 0,0,_,_ | 0,1,_,_ | 0,2,_,_ | 0,3,_,_=>rfl
    | 1,0,_,_ | 1,1,_,_ | 1,2,_,_ | 1,3,_,_=>rfl
    | 2,0,_,_ | 2,1,_,_ | 2,2,_,_ | 2,3,_,_=>rfl
    | 3,0,_,_ | 3,1,_,_ | 3,2,_,_ | 3,3,_,_=>rfl
    | n + 4,_,hx,_=>omega
    | _,n + 4,_,hy=>omega
  · match x,y,hx,hy with
    | 0,0,_,_ | 0,1,_,_ | 0,2,_,_ | 0,3,_,_=>rfl
    | 1,0,_,_ | 1,1,_,_ | 1,2,_,_ | 1,3,_,_=>rfl
    | 2,0,_,_ | 2,1,_,_ | 2,2,_,_ | 2,3,_,_=>rfl
    | 3,0,_,_ | 3,1,_,_ | 3,2,_,_ | 3,3,_,_=>rfl
    | n + 4,_,hx,_=>omega
    | _,n + 4,_,hy=>omega
  · match x,y,hx,hy with
    | 0,0,_,_ | 0,1,_,_ | 0,2,_,_ | 0,3,_,_=>rfl
    | 1,0,_,_ | 1,1,_,_ | 1,2,_,_ | 1,3,_,_=>rfl
    | 2,0,_,_ | 2,1,_,_ | 2,2,_,_ | 2,3,_,_=>rfl
    | 3,0,_,_ | 3,1,_,_ | 3,2,_,_ | 3,3,_,_=>rfl
    | n + 4,_,hx,_=>omega
    | _,n + 4,_,hy=>omega
  · match x,y,hx,hy with
    | 0,0,_,_ | 0,1,_,_ | 0,2,_,_ | 0,3,_,_=>rfl
    | 1,0,_,_ | 1,1,_,_ | 1,2,_,_ | 1,3,_,_=>rfl
    | 2,0,_,_ | 2,1,_,_ | 2,2,_,_ | 2,3,_,_=>rfl
    | 3,0,_,_ | 3,1,_,_ | 3,2,_,_ | 3,3,_,_=>rfl
    | n + 4,_,hx,_=>omega
    | _,n + 4,_,hy=>omega
  · match x,y,hx,hy with
    | 0,0,_,_ | 0,1,_,_ | 0,2,_,_ | 0,3,_,_=>rfl
    | 1,0,_,_ | 1,1,_,_ | 1,2,_,_ | 1,3,_,_=>rfl
    | 2,0,_,_ | 2,1,_,_ | 2,2,_,_ | 2,3,_,_=>rfl
    | 3,0,_,_ | 3,1,_,_ | 3,2,_,_ | 3,3,_,_=>rfl
    | n + 4,_,hx,_=>omega
    | _,n + 4,_,hy=>omega
  · match x,y,hx,hy with
    | 0,0,_,_ | 0,1,_,_ | 0,2,_,_ | 0,3,_,_=>rfl
    | 1,0,_,_ | 1,1,_,_ | 1,2,_,_ | 1,3,_,_=>rfl
    | 2,0,_,_ | 2,1,_,_ | 2,2,_,_ | 2,3,_,_=>rfl
    | 3,0,_,_ | 3,1,_,_ | 3,2,_,_ | 3,3,_,_=>rfl
    | n + 4,_,hx,_=>omega
    | _,n + 4,_,hy=>omega
  · match x,y,hx,hy with
    | 0,0,_,_ | 0,1,_,_ | 0,2,_,_ | 0,3,_,_=>rfl
    | 1,0,_,_ | 1,1,_,_ | 1,2,_,_ | 1,3,_,_=>rfl
    | 2,0,_,_ | 2,1,_,_ | 2,2,_,_ | 2,3,_,_=>rfl
    | 3,0,_,_ | 3,1,_,_ | 3,2,_,_ | 3,3,_,_=>rfl
    | n + 4,_,hx,_=>omega
    | _,n + 4,_,hy=>omega
  · match x,y,hx,hy with
    | 0,0,_,_ | 0,1,_,_ | 0,2,_,_ | 0,3,_,_=>rfl
    | 1,0,_,_ | 1,1,_,_ | 1,2,_,_ | 1,3,_,_=>rfl
    | 2,0,_,_ | 2,1,_,_ | 2,2,_,_ | 2,3,_,_=>rfl
    | 3,0,_,_ | 3,1,_,_ | 3,2,_,_ | 3,3,_,_=>rfl
    | n + 4,_,hx,_=>omega
    | _,n + 4,_,hy=>omega
  · match x,y,hx,hy with
    | 0,0,_,_ | 0,1,_,_ | 0,2,_,_ | 0,3,_,_=>rfl
    | 1,0,_,_ | 1,1,_,_ | 1,2,_,_ | 1,3,_,_=>rfl
    | 2,0,_,_ | 2,1,_,_ | 2,2,_,_ | 2,3,_,_=>rfl
    | 3,0,_,_ | 3,1,_,_ | 3,2,_,_ | 3,3,_,_=>rfl
    | n + 4,_,hx,_=>omega
    | _,n + 4,_,hy=>omega
  · match x,y,hx,hy with
    | 0,0,_,_ | 0,1,_,_ | 0,2,_,_ | 0,3,_,_=>rfl
    | 1,0,_,_ | 1,1,_,_ | 1,2,_,_ | 1,3,_,_=>rfl
    | 2,0,_,_ | 2,1,_,_ | 2,2,_,_ | 2,3,_,_=>rfl
    | 3,0,_,_ | 3,1,_,_ | 3,2,_,_ | 3,3,_,_=>rfl
    | n + 4,_,hx,_=>omega
    | _,n + 4,_,hy=>omega
  · match x,y,hx,hy with
    | 0,0,_,_ | 0,1,_,_ | 0,2,_,_ | 0,3,_,_=>rfl
    | 1,0,_,_ | 1,1,_,_ | 1,2,_,_ | 1,3,_,_=>rfl
    | 2,0,_,_ | 2,1,_,_ | 2,2,_,_ | 2,3,_,_=>rfl
    | 3,0,_,_ | 3,1,_,_ | 3,2,_,_ | 3,3,_,_=>rfl
    | n + 4,_,hx,_=>omega
    | _,n + 4,_,hy=>omega
  · have hc:opC l = 0:=by unfold opC; rw [if_neg h0,if_neg h1,if_neg h2,if_neg h3,if_neg h4,if_neg h5,if_neg h6,if_neg h7,if_neg h8,if_neg h9,if_neg h10,if_neg h11,if_neg h12]
    simp only [hc,decide_eq_false h0,decide_eq_false h1,decide_eq_false h2,decide_eq_false h3,decide_eq_false h4,decide_eq_false h5,decide_eq_false h6,decide_eq_false h7,decide_eq_false h8,decide_eq_false h9,decide_eq_false h10,decide_eq_false h11,decide_eq_false h12]
    match x,y,hx,hy with
    | 0,0,_,_ | 0,1,_,_ | 0,2,_,_ | 0,3,_,_=>rfl
    | 1,0,_,_ | 1,1,_,_ | 1,2,_,_ | 1,3,_,_=>rfl
    | 2,0,_,_ | 2,1,_,_ | 2,2,_,_ | 2,3,_,_=>rfl
    | 3,0,_,_ | 3,1,_,_ | 3,2,_,_ | 3,3,_,_=>rfl
    | n + 4,_,hx,_=>omega
    | _,n + 4,_,hy=>omega
end Go.Q
