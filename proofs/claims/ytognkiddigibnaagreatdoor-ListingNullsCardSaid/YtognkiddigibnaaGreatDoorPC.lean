import Derived.Test.YtognkiddigibnaaGreatDoorFD
import Derived.Test.YtognkiddigibnaaGreatDoorPS
namespace Go.Q
open Go
theorem chk_pos {ρ:Type} {c:Prop} {X:Option ρ} (h:c):chk c X = X:=if_pos h
theorem w64n {x:Int} (h0:0 ≤ x) (h:x < 9223372036854775808):IntKind.i64.wrap x = x:=w64 ⟨by omega,h⟩
theorem size_B (l:BS):(B l).size = l.length:=rfl
theorem eqL (s t:ByteArray):(s.toList == t.toList) = (L s == L t):=by rw [toList_L,toList_L]
theorem ext_B (s:ByteArray) (n:Nat):s.extract 0 n = B ((L s).take n):=by rw [← B_L (s.extract 0 n),L_ext,List.drop_zero]
theorem ext_D (s:ByteArray) (n:Nat):s.extract n s.size = B ((L s).drop n):=by rw [← B_L (s.extract n s.size),L_ext,List.take_of_length_le (by rw [L_len]; exact Nat.le_refl _)]
theorem beq_u8 (c:UInt8) (n:Nat) (hn:n < 256):((c.toNat:Int) == (n:Int)) = (c == UInt8.ofNat n):=by
  rw [Bool.eq_iff_iff,beq_iff_eq,beq_iff_eq]; exact u8_eq hn
theorem B_appR (x y:BS):B x ++ B y = B (x ++ y):=by
  have h:=L_app (B x) (B y)
  rw [L_B,L_B] at h
  rw [← h,B_L]
def nI (l:BS):List Int:=l.map fun c=>(c.toNat:Int)
theorem nI_len (l:BS):(nI l).length = l.length:=by simp [nI]
theorem bytesI_nI (l:BS):bytesI (B l) = nI l:=rfl
end Go.Q
