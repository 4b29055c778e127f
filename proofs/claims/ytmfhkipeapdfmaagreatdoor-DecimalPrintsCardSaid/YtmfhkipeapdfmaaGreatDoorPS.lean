import Derived.Test.YtmfhkipeapdfmaaGreatDoorFD
import Derived.Lib.Bytealg
import Derived.Lib.IndexAny
namespace Go.Q
open Go
set_option maxRecDepth 10000
set_option maxHeartbeats 2000000
def pText (c:Int):Bool:=decide (32 ≤ c) && decide (c ≤ 126)
def pLetter (c:Int):Bool:=(decide (97 ≤ c) && decide (c ≤ 122)) || (decide (65 ≤ c) && decide (c ≤ 90))
def pDigit (c:Int):Bool:=decide (48 ≤ c) && decide (c ≤ 57)
def pPart (c:Int):Bool:=pLetter c || pDigit c || decide (c = 95)
def pre (p:Int → Bool) (s:ByteArray):Nat:=(s.data.toList.takeWhile (fun c=>p c.toNat)).length
theorem upto_succ {q:Int → Bool} {s:ByteArray} {i:Nat} (h:∀ j:Nat,j < i → q (bt s j) = true) (hb:q (bt s i) = true):∀ j:Nat,j < i + 1 → q (bt s j) = true:=by
 intro j hj
 rcases Nat.lt_or_ge j i with h1 | h1
 ·exact h j h1
 ·obtain rfl:j = i:=by omega
  exact hb
abbrev BS:=List UInt8
def L (s:ByteArray):BS:=s.data.toList
def B (l:BS):ByteArray:=⟨l.toArray⟩
@[simp] theorem L_B (l:BS):L (B l) = l:=rfl
@[simp] theorem B_L (s:ByteArray):B (L s) = s:=by obtain ⟨⟨l⟩⟩:=s; rfl
theorem L_len (s:ByteArray):(L s).length = s.size:=by simp [L,Array.length_toList]
theorem toList_L (s:ByteArray):s.toList = L s:=ByteArray.toList_eq s
theorem L_app (a b:ByteArray):L (a ++ b) = L a ++ L b:=by simp [L,ByteArray.data_append]
theorem L_ext (s:ByteArray) (i j:Nat):L (s.extract i j) = ((L s).take j).drop i:=by
 simp [L,ByteArray.data_extract,Array.toList_extract,List.extract]
 exact (List.drop_take ..).symm ▸ rfl
theorem bt_L (s:ByteArray) (i:Int):bt s i = (((L s).getD i.toNat 0).toNat:Int):=rfl
theorem ofInts_nat (l:BS):ofInts (l.map fun c=>(c.toNat:Int)) = B l:=by
 unfold ofInts B
 congr 2
 rw [List.map_map]
 conv=>rhs; rw [← List.map_id l]
 apply List.map_congr_left
 intro c _
 simp
def isUp (c:UInt8):Bool:=decide (65 ≤ c) && decide (c ≤ 90)
def low (c:UInt8):UInt8:=if isUp c then c + 32 else c
def small (l:BS):BS:=l.map low
def words:List BS:=[[46,97,110,100,46],[46,111,114,46],[46,110,111,116,46],[46,101,113,118,46],[46,116,114,117,101,46],[46,102,97,108,115,101,46]]
def signs:List BS:=[[42,42],[61,61],[47,61],[60,61],[62,61],[61,62],[58,58],[43],[45],[42],[47],[60],[62],[61],[40],[41],[91],[93],[44],[58],[37]]
theorem B_size (l:BS):(B l).size = l.length:=rfl
def wtest (l w:BS):Bool:=decide (w.length ≤ l.length) && (small (l.take w.length) == w)
def wordOf (l:BS):BS:=(words.find? (wtest l)).getD []
def preL (p:Int → Bool) (l:BS):Nat:=(l.takeWhile fun c=>p c.toNat).length
def isExp (c:UInt8):Bool:=c == 101 || c == 69 || c == 100 || c == 68
def isSign (c:UInt8):Bool:=c == 43 || c == 45
def expoN (l:BS):Nat:=if decide (1 < l.length) && isSign (l.getD 1 0) then 2 else 1
def expo (l:BS):Nat :=
 if l = [] ∨ isExp (l.getD 0 0) = false then 0
 else if preL pDigit (l.drop (expoN l)) = 0 then 0 else expoN l + preL pDigit (l.drop (expoN l))
theorem u8_eq {c:UInt8} {n:Nat} (hn:n < 256):(c.toNat:Int) = (n:Int) ↔ c = UInt8.ofNat n:=by
 constructor
 ·intro h
  apply UInt8.toNat_inj.1
  have:c.toNat = n:=by omega
  rw [this]; simp [Nat.mod_eq_of_lt hn]
 ·rintro rfl
  simp [Nat.mod_eq_of_lt hn]
theorem L_drop {s:ByteArray} {n:Nat}:L (s.extract n s.size) = (L s).drop n:=by
 rw [L_ext,List.take_of_length_le (by rw [L_len]; exact Nat.le_refl _)]
def isInt (l:BS):Bool:=decide (1 ≤ l.length) && decide (l.length ≤ 10) && (preL pDigit l == l.length)
def isName (l:BS):Bool:=decide (l ≠ []) && decide (l.length ≤ 12) && pLetter (l.getD 0 0).toNat && (preL pPart l == l.length) && (l == small l)
def pointOk (r:BS):Bool:=decide (r = []) || !pLetter (r.getD 0 0).toNat || isExp (r.getD 0 0)
def hasPoint (l:BS):Bool :=
 decide (preL pDigit l < l.length) && (l.getD (preL pDigit l) 0 == 46) && decide (wordOf (l.drop (preL pDigit l)) = []) && pointOk (l.drop (preL pDigit l + 1))
def pointN (l:BS):Nat:=if hasPoint l then preL pDigit l + (1 + preL pDigit (l.drop (preL pDigit l + 1))) else preL pDigit l
def numN (l:BS):Nat:=pointN l + expo (l.drop (pointN l))
def numR (l:BS):Bool:=hasPoint l || decide (0 < expo (l.drop (pointN l)))
def unsign (l:BS):BS:=if decide (l ≠ []) && isSign (l.getD 0 0) then l.drop 1 else l
def decTail (l:BS):Bool :=
 if l = [] then true else if isExp (l.getD 0 0) then
  decide (unsign (l.drop 1) ≠ []) && decide ((unsign (l.drop 1)).length ≤ 4) && (preL pDigit (unsign (l.drop 1)) == (unsign (l.drop 1)).length) else false
def decBody (l:BS):Bool :=
 let f:=preL pDigit l
 if (l.drop f).getD 0 0 == 46 && decide (f < l.length) then
  let b:=preL pDigit (l.drop (f + 1))
  if f + b = 0 || f + b > 60 then false else decTail (l.drop (f + 1 + b))
 else if f = 0 || f > 60 then false else decTail (l.drop f)
def decIs (l:BS):Bool:=decide (unsign l = [105,110,102]) || decide (unsign l = [110,97,110]) || decBody (unsign l)
def trimS (l:BS):BS:=l.dropWhile isSign
def isRealL (l:BS):Bool :=
 decide (l ≠ []) && (pDigit (l.getD 0 0).toNat || l.getD 0 0 == 46) && (l == small l) && decIs l && numR l && (numN l == l.length) &&
  (decide (Lib.indexAny l [101,100] < 0) || decide (preL pDigit (trimS (l.drop ((Lib.indexAny l [101,100]).toNat + 1))) ≤ 3))
def kName:BS:=[110,97,109,101]
def kInt:BS:=[105,110,116]
def kReal:BS:=[114,101,97,108]
def kText:BS:=[116,101,120,116]
def kOp:BS:=[111,112]
def kLog:BS:=[108,111,103,105,99,97,108]
def valid (k t:BS):Bool :=
 if k = kName then isName t else if k = kInt then isInt t else if k = kReal then isRealL t else if k = kText then preL pText t == t.length
 else if k = kOp then decide (t ∈ signs) || decide (t ∈ words.take 4) else if k = kLog then decide (t ∈ words.drop 4) else false
theorem getD_drop {l:BS} {n i:Nat}:(l.drop n).getD i 0 = l.getD (n + i) 0:=by simp [List.getD,List.getElem?_drop]
section
variable {s:ByteArray} {n d e:Nat} {w:BS}
end
def quo (q:UInt8):BS → Option (BS × Nat)
 | []=>none
 | c :: r=>if c = q then
   (match r with
    | []=>some ([],1)
    | c' :: r'=>if c' = q then (quo q r').map fun p=>(q :: p.1,p.2 + 2) else some ([],1))
  else (quo q r).map fun p=>(c :: p.1,p.2 + 1)
theorem quo_cons (q c:UInt8) (r:BS):quo q (c :: r) = if c = q then
   (match r with
    | []=>some ([],1)
    | c' :: r'=>if c' = q then (quo q r').map fun p=>(q :: p.1,p.2 + 2) else some ([],1))
  else (quo q r).map fun p=>(c :: p.1,p.2 + 1):=by
 rw [quo.eq_def]; rfl
def quoRes:Option (BS × Nat) → BS × Nat
 | some (t,n)=>(t,n + 1)
 | none=>([],0)
def quoted (l:BS):BS × Nat:=quoRes (quo (l.getD 0 0) (l.drop 1))
def QInv (l out:BS) (i:Nat):Prop:=1 ≤ i ∧ out.length < i ∧ quo (l.getD 0 0) (l.drop 1) = (quo (l.getD 0 0) (l.drop i)).map fun p=>(out ++ p.1,p.2 + (i - 1))
theorem drop_cons {l:BS} {i:Nat} (h:i < l.length):l.drop i = l.getD i 0 :: l.drop (i + 1):=by
 rw [List.drop_eq_getElem_cons h]
 simp [List.getD,h]
theorem QInv.other {l out:BS} {i:Nat} (h:QInv l out i) (hi:i < l.length) (hc:¬ l.getD i 0 = l.getD 0 0):QInv l (out ++ [l.getD i 0]) (i + 1):=by
 obtain ⟨h0,h1,h2⟩:=h
 refine ⟨by omega,by simp; omega,?_⟩
 rw [h2,drop_cons hi]
 rw [quo_cons,if_neg hc]
 cases quo (l.getD 0 0) (l.drop (i + 1)) with
 | none=>rfl
 | some p =>
  simp only [Option.map_some,List.append_assoc,List.singleton_append,Option.some.injEq,Prod.mk.injEq,true_and]
  omega
theorem QInv.ends {l out:BS} {i:Nat} (h:QInv l out i) (hi:i < l.length) (hc:l.getD i 0 = l.getD 0 0) (hc':i + 1 = l.length ∨ ¬ l.getD (i + 1) 0 = l.getD 0 0):quoted l = (out,i + 1):=by
 obtain ⟨h0,h1,h2⟩:=h
 unfold quoted
 rw [h2,drop_cons hi,quo_cons,if_pos hc]
 have e:(i:Nat) = 1 + (i - 1):=by omega
 rcases hc' with hc' | hc'
 ·rw [List.drop_of_length_le (by omega)]
  simp only [Option.map_some,quoRes,List.append_nil,Prod.mk.injEq,true_and]; omega
 ·rcases Nat.lt_or_ge (i + 1) l.length with h3 | h3
  ·rw [drop_cons h3]
   simp only [if_neg hc',Option.map_some,quoRes,List.append_nil,Prod.mk.injEq,true_and]; omega
  ·rw [List.drop_of_length_le (by omega)]
   simp only [Option.map_some,quoRes,List.append_nil,Prod.mk.injEq,true_and]; omega
theorem QInv.none {l out:BS} {i:Nat} (h:QInv l out i) (hi:l.length ≤ i):quoted l = ([],0):=by
 obtain ⟨h0,h1,h2⟩:=h
 unfold quoted
 rw [h2,List.drop_of_length_le hi]
 rfl
def numT (l:BS):BS × BS:=(if numR l then kReal else kInt,small (l.take (numN l)))
def firstSpec (l:BS):(BS × BS) × Nat :=
 if pLetter (l.getD 0 0).toNat then ((kName,small (l.take (preL pPart l))),if valid kName (small (l.take (preL pPart l))) then preL pPart l else 0)
 else if l.getD 0 0 = 39 ∨ l.getD 0 0 = 34 then ((kText,(quoted l).1),(quoted l).2)
 else if wordOf l ≠ [] then ((if wordOf l ∈ words.drop 4 then kLog else kOp,wordOf l),(wordOf l).length)
 else if pDigit (l.getD 0 0).toNat ∨ l.getD 0 0 = 46 ∧ 1 < l.length ∧ pDigit (l.getD 1 0).toNat then
  (numT l,if numN l < l.length ∧ pPart (l.getD (numN l) 0).toNat = true then 0 else if valid (numT l).1 (numT l).2 then numN l else 0)
 else match signs.find? (·.isPrefixOf l) with
  | some o=>((kOp,o),o.length)
  | none=>(([],[]),0)
theorem L_take {s:ByteArray} {n:Nat}:L (s.extract 0 n) = (L s).take n:=by rw [L_ext,List.drop_zero]
section
variable {s:ByteArray} {n:Nat} {b:Bool}
end
def scanG:Nat → BS → Nat → Except Nat (List (BS × BS))
 | 0,_,_=>.ok []
 | f + 1,r,i =>
  if r = [] then .ok []
  else if r.getD 0 0 = 32 then scanG f (r.drop 1) (i + 1)
  else if (firstSpec r).2 = 0 ∨ valid (firstSpec r).1.1 (firstSpec r).1.2 = false then .error i
  else (scanG f (r.drop (firstSpec r).2) (i + (firstSpec r).2)).map ((firstSpec r).1 :: ·)
def scanSpec (l:BS):List (BS × BS) × Nat × Nat :=
 if preL pText l < l.length then ([],preL pText l,3)
 else match scanG (l.length + 1) l 0 with
  | .ok ts=>(ts,0,0)
  | .error i=>([],i,3)
def SInv (l:BS) (out:List (BS × BS)) (i:Nat):Prop :=
 out.length ≤ i ∧ i ≤ l.length ∧ ∃ f,l.length - i < f ∧ scanG (l.length + 1) l 0 = (scanG f (l.drop i) i).map (out ++ ·)
theorem SInv.all {l:BS} {out:List (BS × BS)} {i:Nat} (h:SInv l out i) (hp:¬ preL pText l < l.length) (hi:l.length ≤ i):scanSpec l = (out,0,0):=by
 obtain ⟨h2,h1,f,hf,he⟩:=h
 unfold scanSpec
 cases f with
 | zero=>omega
 | succ f =>
  rw [if_neg hp,he,scanG,if_pos (List.drop_of_length_le hi)]
  simp [Except.map]
theorem u32 {s:ByteArray} {i:Nat}:bt s (i:Int) = 32 ↔ ((L s).drop i).getD 0 0 = 32:=by
 rw [bt_L,getD_drop,Int.toNat_natCast,Nat.add_zero]; exact u8_eq (n:=32) (by omega)
end Go.Q
