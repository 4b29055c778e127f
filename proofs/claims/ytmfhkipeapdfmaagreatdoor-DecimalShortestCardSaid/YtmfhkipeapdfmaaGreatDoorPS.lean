import Derived.Test.YtmfhkipeapdfmaaGreatDoorFD
import Derived.Lib.Bytealg
import Derived.Lib.IndexAny
namespace Go.Q
open Go
set_option maxRecDepth 10000
set_option maxHeartbeats 2000000
def pre (p:Int → Bool) (s:ByteArray):Nat:=(s.data.toList.takeWhile (fun c=>p c.toNat)).length
theorem upto_succ {q:Int → Bool} {s:ByteArray} {i:Nat} (h:∀ j:Nat,j < i → q (bt s j) = true) (hb:q (bt s i) = true):∀ j:Nat,j < i + 1 → q (bt s j) = true:=by
 intro j hj
 rcases Nat.lt_or_ge j i with h1 | h1
 ·exact h j h1
 ·obtain rfl:j = i:=by omega
  exact hb
abbrev BS:=List UInt8
def L (s:ByteArray):BS:=s.data.toList
def B (l:BS):ByteArray:=⟨l.toArray⟩
@[simp] theorem L_B (l:BS):L (B l) = l:=rfl
@[simp] theorem B_L (s:ByteArray):B (L s) = s:=by obtain ⟨⟨l⟩⟩:=s; rfl
theorem L_len (s:ByteArray):(L s).length = s.size:=by simp [L,Array.length_toList]
theorem toList_L (s:ByteArray):s.toList = L s:=ByteArray.toList_eq s
theorem L_app (a b:ByteArray):L (a ++ b) = L a ++ L b:=by simp [L,ByteArray.data_append]
theorem L_ext (s:ByteArray) (i j:Nat):L (s.extract i j) = ((L s).take j).drop i:=by
 simp [L,ByteArray.data_extract,Array.toList_extract,List.extract]
 exact (List.drop_take ..).symm ▸ rfl
theorem bt_L (s:ByteArray) (i:Int):bt s i = (((L s).getD i.toNat 0).toNat:Int):=rfl
theorem ofInts_nat (l:BS):ofInts (l.map fun c=>(c.toNat:Int)) = B l:=by
 unfold ofInts B
 congr 2
 rw [List.map_map]
 conv=>rhs; rw [← List.map_id l]
 apply List.map_congr_left
 intro c _
 simp
def isUp (c:UInt8):Bool:=decide (65 ≤ c) && decide (c ≤ 90)
def low (c:UInt8):UInt8:=if isUp c then c + 32 else c
def small (l:BS):BS:=l.map low
theorem beq_L (a:ByteArray) (b:BS):(a.toList == (B b).toList) = (L a == b):=by rw [toList_L,toList_L,L_B]
theorem B_size (l:BS):(B l).size = l.length:=rfl
theorem u8_eq {c:UInt8} {n:Nat} (hn:n < 256):(c.toNat:Int) = (n:Int) ↔ c = UInt8.ofNat n:=by
 constructor
 ·intro h
  apply UInt8.toNat_inj.1
  have:c.toNat = n:=by omega
  rw [this]; simp [Nat.mod_eq_of_lt hn]
 ·rintro rfl
  simp [Nat.mod_eq_of_lt hn]
theorem L_drop {s:ByteArray} {n:Nat}:L (s.extract n s.size) = (L s).drop n:=by
 rw [L_ext,List.take_of_length_le (by rw [L_len]; exact Nat.le_refl _)]
theorem getD_drop {l:BS} {n i:Nat}:(l.drop n).getD i 0 = l.getD (n + i) 0:=by simp [List.getD,List.getElem?_drop]
section
variable {s:ByteArray} {n d e:Nat} {w:BS}
end
def quo (q:UInt8):BS → Option (BS × Nat)
 | []=>none
 | c :: r=>if c = q then
   (match r with
    | []=>some ([],1)
    | c' :: r'=>if c' = q then (quo q r').map fun p=>(q :: p.1,p.2 + 2) else some ([],1))
  else (quo q r).map fun p=>(c :: p.1,p.2 + 1)
theorem L_take {s:ByteArray} {n:Nat}:L (s.extract 0 n) = (L s).take n:=by rw [L_ext,List.drop_zero]
section
variable {s:ByteArray} {n:Nat} {b:Bool}
end
theorem u32 {s:ByteArray} {i:Nat}:bt s (i:Int) = 32 ↔ ((L s).drop i).getD 0 0 = 32:=by
 rw [bt_L,getD_drop,Int.toNat_natCast,Nat.add_zero]; exact u8_eq (n:=32) (by omega)
end Go.Q
