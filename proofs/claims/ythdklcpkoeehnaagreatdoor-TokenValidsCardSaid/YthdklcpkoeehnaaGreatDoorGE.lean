import Derived.Test.YthdklcpkoeehnaaGreatDoorFD
import Derived.Test.YthdklcpkoeehnaaGreatDoorPS
import Derived.Test.YthdklcpkoeehnaaGreatDoorGS
import Derived.Test.YthdklcpkoeehnaaGreatDoorKS
import Derived.Test.YthdklcpkoeehnaaGreatDoorTryzShelf
import Derived.Test.YthdklcpkoeehnaaGreatDoorCB
import Derived.Shelf.Strings.SlTrimAscii
namespace Go.Q
open Go Go.Proofs Go.RowKit
set_option maxRecDepth 10000

noncomputable def Balg.IndexByteString (s : ByteArray) (c : Int) : Option Int := some (Lib.indexByte (L s) c.toNat.toUInt8)
theorem Balg.IndexByteString_ok {s : ByteArray} {c r : Int} (h : Balg.IndexByteString s c = some r) : Gives Tryz.prog 99 [.lit (.string s), .lit (.int .u8 c)] (.lit (.int .i64 r)) := by
  cases h
  exact Gives.extern Tryz.func99 (by kernel_rfl) (by kernel_rfl) (by kernel_rfl) (ext := Extern.BytealgIndexByte.indexByte) (by kernel_rfl) (vs := [.string s, .int .u8 c]) (fun w => Lib.run_indexByteString s c w)

noncomputable def Strs.IndexAny (s t : ByteArray) : Option Int := chk (s.size < 4294967281 ∧ t.size < 4294967281 ∧ asciiL (L s) = true ∧ asciiL (L t) = true) (some (Lib.indexAny (L s) (L t)))
theorem Strs.IndexAny_ok {s t : ByteArray} {r : Int} (h : Strs.IndexAny s t = some r) : Gives Tryz.prog 39 [.lit (.string s), .lit (.string t)] (.lit (.int .i64 r)) := by
  obtain ⟨⟨h1, h2, h3, h4⟩, h⟩ := chk_elim h
  cases h
  exact Gives.of_calls Tryz.func39 rfl (by kernel_rfl) (vs := [.string s, .string t]) (fun _ _ _ => .lit _ _) (fun w => Tryz.strings_IndexAny_laid s t w h1 h2 (asciiL_at h3) (asciiL_at h4))

noncomputable def Strs.TrimLeft (s t : ByteArray) : Option ByteArray := chk (t.size < 4294967281 ∧ asciiL (L t) = true) (some (B (Lib.trimLeftS (L s) (L t))))
theorem Strs.TrimLeft_ok {s t r : ByteArray} (h : Strs.TrimLeft s t = some r) : Gives Tryz.prog 40 [.lit (.string s), .lit (.string t)] (.lit (.string r)) := by
  obtain ⟨⟨h2, h4⟩, h⟩ := chk_elim h
  cases h
  exact Gives.of_calls Tryz.func40 rfl (by kernel_rfl) (vs := [.string s, .string t]) (fun _ _ _ => .lit _ _) (fun w => Any.strings_TrimLeft_laid Tryz.lays161 (by kernel_rfl) s t w h2 (asciiL_at h4))

noncomputable def Strconv.Atoi (s : ByteArray) : Option (Int × Unit) := chk (s.size ≤ 9223372036854775806) (match Lib.atoiAll (L s) with | .ok v => some (v, ()) | _ => none)
theorem Strconv.Atoi_ok {s : ByteArray} {r : Int × Unit} (h : Strconv.Atoi s = some r) : Gives Tryz.prog 75 [.lit (.string s)] (.tup [.lit (.int .i64 r.1), .lit Value.nilIface]) := by
  obtain ⟨h1, h⟩ := chk_elim h
  split at h
  · rename_i v hv
    cases h
    refine Gives.of_calls Tryz.func75 rfl (by kernel_rfl) (vs := [.string s]) (v := .tuple #[.int .i64 v, .nilIface]) (fun _ _ _ => ?_) (fun w => (Tryz.strconv_Atoi_ok s h1 v hv w).mono fun e w' ⟨he, hw⟩ => ⟨he, ?_⟩)
    · exact .tup _ _ _ rfl (fun i hi => by
        match i, hi with
        | 0, _ => exact .lit _ _
        | 1, _ => exact .lit _ _)
    · rcases hw with rfl | ⟨t, rfl⟩
      · exact Below.refl _ _
      · exact Lib.bytesWorld_below _ _ _
  · cases h

noncomputable def Strs.ReplaceAll (s o n : ByteArray) : Option ByteArray := chk (s.size < 4294967281 ∧ 1 ≤ o.size ∧ s.size + Lib.countB s o * n.size ≤ 140737488355328) (some (B (Lib.replaceAll (L s) (L o) (L n))))
theorem Strs.ReplaceAll_ok {s o n r : ByteArray} (h : Strs.ReplaceAll s o n = some r) : Gives Tryz.prog 32 [.lit (.string s), .lit (.string o), .lit (.string n)] (.lit (.string r)) := by
  obtain ⟨⟨h1, h2, h3⟩, h⟩ := chk_elim h
  cases h
  exact Gives.of_callsK Tryz.func32 rfl (by kernel_rfl) (vs := [.string s, .string o, .string n]) (fun _ _ _ => .lit _ _) (fun w ⟨m, hm⟩ => Tryz.strings_ReplaceAll s o n m w h1 hm h2 h3)

noncomputable def Strs.ContainsAny (s t : ByteArray) : Option Bool := chk (s.size < 4294967281 ∧ t = ⟨#[100, 68]⟩) (some (Lib.containsAny (L s) (L t)))
theorem Strs.ContainsAny_ok {s t : ByteArray} {r : Bool} (h : Strs.ContainsAny s t = some r) : Gives Tryz.prog 30 [.lit (.string s), .lit (.string t)] (.lit (.bool r)) := by
  obtain ⟨⟨h1, h2⟩, h⟩ := chk_elim h
  cases h
  subst h2
  exact Gives.of_calls Tryz.func30 rfl (by kernel_rfl) (vs := [.string s, .string dD]) (fun _ _ _ => .lit _ _) (fun w => containsAny_dD Tryz.lays150 (by kernel_rfl) s w h1)
end Go.Q
