import Derived.Test.YthdklcpkoeehnaaDoorQY
import Derived.Test.YthdklcpkoeehnaaDoorPS
import Derived.Test.YthdklcpkoeehnaaDoorGS
import Derived.Test.YthdklcpkoeehnaaDoorTrydShelf
import Derived.Shelf.Strings.SlTrimAscii
namespace Go.Q
open Go Go.Proofs Go.RowKit
set_option maxRecDepth 10000

noncomputable def Balg.IndexByteString (s : ByteArray) (c : Int) : Option Int := some (Lib.indexByte (L s) c.toNat.toUInt8)
theorem Balg.IndexByteString_ok {s : ByteArray} {c r : Int} (h : Balg.IndexByteString s c = some r) : Gives Tryd.prog 77 [.lit (.string s), .lit (.int .u8 c)] (.lit (.int .i64 r)) := by
  cases h
  exact Gives.extern Tryd.func77 (by kernel_rfl) (by kernel_rfl) (by kernel_rfl) (ext := Extern.BytealgIndexByte.indexByte) (by kernel_rfl) (vs := [.string s, .int .u8 c]) (fun w => Lib.run_indexByteString s c w)

noncomputable def Strs.IndexAny (s t : ByteArray) : Option Int := chk (s.size < 4294967281 ∧ t.size < 4294967281 ∧ asciiL (L s) = true ∧ asciiL (L t) = true) (some (Lib.indexAny (L s) (L t)))
theorem Strs.IndexAny_ok {s t : ByteArray} {r : Int} (h : Strs.IndexAny s t = some r) : Gives Tryd.prog 49 [.lit (.string s), .lit (.string t)] (.lit (.int .i64 r)) := by
  obtain ⟨⟨h1, h2, h3, h4⟩, h⟩ := chk_elim h
  cases h
  exact Gives.of_calls Tryd.func49 rfl (by kernel_rfl) (vs := [.string s, .string t]) (fun _ _ _ => .lit _ _) (fun w => Tryd.strings_IndexAny_laid s t w h1 h2 (asciiL_at h3) (asciiL_at h4))

noncomputable def Strs.TrimLeft (s t : ByteArray) : Option ByteArray := chk (t.size < 4294967281 ∧ asciiL (L t) = true) (some (B (Lib.trimLeftS (L s) (L t))))
theorem Strs.TrimLeft_ok {s t r : ByteArray} (h : Strs.TrimLeft s t = some r) : Gives Tryd.prog 50 [.lit (.string s), .lit (.string t)] (.lit (.string r)) := by
  obtain ⟨⟨h2, h4⟩, h⟩ := chk_elim h
  cases h
  exact Gives.of_calls Tryd.func50 rfl (by kernel_rfl) (vs := [.string s, .string t]) (fun _ _ _ => .lit _ _) (fun w => Any.strings_TrimLeft_laid Tryd.lays161 (by kernel_rfl) s t w h2 (asciiL_at h4))

noncomputable def Strconv.Atoi (s : ByteArray) : Option (Int × Unit) := chk (s.size ≤ 9223372036854775806) (match Lib.atoiAll (L s) with | .ok v => some (v, ()) | _ => none)
theorem Strconv.Atoi_ok {s : ByteArray} {r : Int × Unit} (h : Strconv.Atoi s = some r) : Gives Tryd.prog 65 [.lit (.string s)] (.tup [.lit (.int .i64 r.1), .lit Value.nilIface]) := by
  obtain ⟨h1, h⟩ := chk_elim h
  split at h
  · rename_i v hv
    cases h
    refine Gives.of_calls Tryd.func65 rfl (by kernel_rfl) (vs := [.string s]) (v := .tuple #[.int .i64 v, .nilIface]) (fun _ _ _ => ?_) (fun w => (Tryd.strconv_Atoi_ok s h1 v hv w).mono fun e w' ⟨he, hw⟩ => ⟨he, ?_⟩)
    · exact .tup _ _ _ rfl (fun i hi => by
        match i, hi with
        | 0, _ => exact .lit _ _
        | 1, _ => exact .lit _ _)
    · rcases hw with rfl | ⟨t, rfl⟩
      · exact Below.refl _ _
      · exact Lib.bytesWorld_below _ _ _
  · cases h
end Go.Q
