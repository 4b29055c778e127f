/-
  DERIVED: THE SHELF's CONTRACTS AT THIS DUMP, IN PLAIN WORDS (tools/lay-plain.mjs out of 'TryzShelf.lean', which tools/lay-shelf.mjs wrote): THE SAME DECLARATIONS UNDER THE SAME NAMES: 'import', 'namespace', 'open', 'def', 'theorem' AND NOTHING ELSE: no command of the shelf's: FOR A HAND-IN. Each laying: the table of numbers ('.._ren') and one theorem, a field a fact of the dump's own or the kernel's comparison; each contract: ONE APPLICATION.
-/
import Derived.Shelf.Small.Bits
import Derived.Shelf.Strconv.Itoa0
import Derived.Shelf.Bits.Mul64
import Derived.Ground.Names2Prog
import Derived.Shelf.Slices.Clone
import Derived.Ground.SlgnProg
import Derived.Shelf.SlicesE.Clone
import Derived.Test.YtemmhailjfdfdaaGreatProg
namespace Go.Proofs
open Go.Shelf
def Tryz.lays212_ren:Go.Shelf.Ren:=⟨fun | 212=>180 | 263=>204 | 264=>193 | n=>n,fun | 46=>147 | 51=>161 | 146=>162 | 53=>110 | 148=>143 | n=>n,fun | n=>n⟩
theorem Tryz.lays212:Go.Proofs.Lays.n212 Tryz.prog Tryz.lays212_ren:={
  mixed:=by kernel_rfl
  f212:=Tryz.func180.trans (congrArg some (by kernel_rfl))
  f263:=Tryz.func204.trans (congrArg some (by kernel_rfl))
  f264:=Tryz.func193.trans (congrArg some (by kernel_rfl))
  t46:=Tryz.underlying147
  a46:=Tryz.isAgg147
  z46:=Tryz.sizeOf147
  v46:=Tryz.zeroValue147
  t51:=Tryz.underlying161
  a51:=Tryz.isAgg161
  z51:=Tryz.sizeOf161
  v51:=Tryz.zeroValue161
  t53:=Tryz.underlying110
  a53:=Tryz.isAgg110
  z53:=Tryz.sizeOf110
  v53:=Tryz.zeroValue110
  t146:=Tryz.underlying162
  a146:=Tryz.isAgg162
  z146:=Tryz.sizeOf162
  v146:=Tryz.zeroValue162
  t148:=Tryz.underlying143
  a148:=Tryz.isAgg143
  z148:=Tryz.sizeOf143
  v148:=Tryz.zeroValue143 }
open Go.RowKit Go.Lib in
theorem Tryz.bits_Mul (x y:Nat) (hx:x < 18446744073709551616) (hy:y < 18446744073709551616) (w:World) :
    Calls Tryz.prog 180 #[.int .u64 x,.int .u64 y] w fun e w'=>e = .returned (.tuple #[.int .u64 ((x * y / 18446744073709551616:Nat):Int),.int .u64 ((x * y % 18446744073709551616:Nat):Int)]) ∧ w' = w:=Any.bits_Mul Tryz.lays212 x y hx hy w
end Go.Proofs
