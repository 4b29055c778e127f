import Derived.Test.YtmfhkipeapdfmaaGreatDoorFD
import Derived.Test.YtmfhkipeapdfmaaGreatDoorPS
import Derived.Test.YtmfhkipeapdfmaaGreatDoorDGS
import Derived.Test.YtmfhkipeapdfmaaGreatDoorDKS
import Derived.Test.YtmfhkipeapdfmaaGreatDoorDShelf
import Derived.Test.YtmfhkipeapdfmaaGreatDoorFX
import Derived.Test.YtmfhkipeapdfmaaGreatDoorFY
import Derived.Test.YtmfhkipeapdfmaaGreatDoorDTZ
import Derived.Laws.Externs
import Derived.Lib.AppendIntMem
import Derived.WalkSmall
namespace Go.Q
open Go Go.Proofs Go.RowKit
set_option maxRecDepth 10000
set_option maxHeartbeats 2000000
theorem tab_of {w : World} (h : tabAt w) : Lib.TabIs Tryz.prog w "internal/strconv.uint64pow10" .u64 Lib.pow10Tab := by
  unfold Lib.TabIs World.var?
  rw [show Tryz.prog.globalNamed "internal/strconv.uint64pow10" = some 2 by kernel_rfl]
  exact h
noncomputable def Strconv.Itoa (n:Int):Option ByteArray:=chk (-9223372036854775808 ≤ n ∧ n ≤ 9223372036854775807) (some (B (Lib.itoa n)))
theorem Strconv.Itoa_ok {n:Int} {r:ByteArray} (h:Strconv.Itoa n = some r):Gives Tryz.prog 46 [.lit (.int .i64 n)] (.lit (.string r)):=by
  obtain ⟨h1,h⟩:=chk_elim h
  cases h
  exact Gives.of_callsK Tryz.func46 rfl (by kernel_rfl) (vs:=[.int .i64 n]) (fun _ _ _=>.lit _ _) (fun w hk=>(Tryz.strconv_Itoa n h1.1 h1.2 w (tab_of hk.2.1)).mono fun e w' ⟨he,k,os,hw⟩=>⟨he,hw ▸ Lib.below_grow _ _ (Nat.le_refl _) k os⟩)
noncomputable def Strs.TrimLeft (s t:ByteArray):Option ByteArray:=chk (t = ⟨#[48]⟩) (some (B (Lib.trimLeftB (L s) 48)))
theorem Strs.TrimLeft_ok {s t r:ByteArray} (h:Strs.TrimLeft s t = some r):Gives Tryz.prog 75 [.lit (.string s),.lit (.string t)] (.lit (.string r)):=by
  obtain ⟨h1,h⟩:=chk_elim h
  cases h
  subst h1
  exact Gives.of_calls Tryz.func75 rfl (by kernel_rfl) (vs:=[.string s,.string ⟨#[48]⟩]) (fun _ _ _=>.lit _ _) (fun w=>(Tryz.strings_TrimLeft_one s 48 (by decide) w).mono fun e w' ⟨he,hw⟩=>⟨he,hw ▸ Below.refl _ _⟩)
noncomputable def Strs.TrimRight (s t:ByteArray):Option ByteArray:=chk (s.size ≤ 9223372036854775807 ∧ t = ⟨#[48]⟩) (some (B (Lib.trimRightB (L s) 48)))
theorem Strs.TrimRight_ok {s t r:ByteArray} (h:Strs.TrimRight s t = some r):Gives Tryz.prog 44 [.lit (.string s),.lit (.string t)] (.lit (.string r)):=by
  obtain ⟨⟨h1,h2⟩,h⟩:=chk_elim h
  cases h
  subst h2
  exact Gives.of_calls Tryz.func44 rfl (by kernel_rfl) (vs:=[.string s,.string ⟨#[48]⟩]) (fun _ _ _=>.lit _ _) (fun w=>(Tryz.strings_TrimRight_one s 48 (by decide) w h1).mono fun e w' ⟨he,hw⟩=>⟨he,hw ▸ Below.refl _ _⟩)
noncomputable def Strs.Repeat (s:ByteArray) (c:Int):Option ByteArray:=chk (0 ≤ c ∧ c ≤ 9223372036854775807 ∧ s.size * c.toNat ≤ 140737488355328) (some (B (Lib.repeatL (L s) c.toNat)))
theorem Strs.Repeat_ok {s r:ByteArray} {c:Int} (h:Strs.Repeat s c = some r):Gives Tryz.prog 45 [.lit (.string s),.lit (.int .i64 c)] (.lit (.string r)):=by
  obtain ⟨⟨h0,h1,h2⟩,h⟩:=chk_elim h
  cases h
  obtain ⟨n,rfl⟩:∃ n:Nat,c = n:=⟨c.toNat,by omega⟩
  exact Gives.of_calls Tryz.func45 rfl (by kernel_rfl) (vs:=[.string s,.int .i64 n]) (fun _ _ _=>.lit _ _) (fun w=>Tryz.strings_Repeat s n w (by omega) h2)
noncomputable def Strs.Contains (s t:ByteArray):Option Bool:=chk (s.size < 4294967281) (some (Lib.contains (L s) (L t)))
theorem Strs.Contains_ok {s t:ByteArray} {r:Bool} (h:Strs.Contains s t = some r):Gives Tryz.prog 108 [.lit (.string s),.lit (.string t)] (.lit (.bool r)):=by
  obtain ⟨h1,h⟩:=chk_elim h
  cases h
  exact Gives.of_callsK Tryz.func108 rfl (by kernel_rfl) (vs:=[.string s,.string t]) (fun _ _ _=>.lit _ _) (fun w ⟨⟨m,hm⟩,_⟩=>(Tryz.strings_Contains s t m w h1 hm).mono fun e w' ⟨he,hw⟩=>⟨he,hw ▸ Below.refl _ _⟩)
theorem rel_two {I:Nat → Prop} {w:World} {μ:MM} (a b:Value):RelV I w μ (.tup [.lit a,.lit b]) (.tuple #[a,b]):=.tup _ _ _ rfl (fun i hi=>by
  match i,hi with
  | 0,_=>exact .lit _ _
  | 1,_=>exact .lit _ _)
noncomputable def Strconv.Atoi (s:ByteArray):Option (Int × Unit):=chk (s.size ≤ 9223372036854775806) (match Lib.atoiAll (L s) with | .ok v=>some (v,()) | _=>none)
theorem Strconv.Atoi_ok {s:ByteArray} {r:Int × Unit} (h:Strconv.Atoi s = some r):Gives Tryz.prog 109 [.lit (.string s)] (.tup [.lit (.int .i64 r.1),.lit Value.nilIface]):=by
  obtain ⟨h1,h⟩:=chk_elim h
  cases hv:Lib.atoiAll (L s) with
  | ok v =>
    rw [hv] at h
    cases h
    refine Gives.of_calls Tryz.func109 rfl (by kernel_rfl) (vs:=[.string s]) (v:=.tuple #[.int .i64 v,.nilIface]) (fun _ _ _=>rel_two _ _) (fun w=>(Tryz.strconv_Atoi_ok s (by omega) v hv w).mono fun e w' ⟨he,hw⟩=>⟨he,?_⟩)
    rcases hw with rfl | ⟨t,rfl⟩
    · exact Below.refl _ _
    · exact Lib.bytesWorld_below _ _ _
  | _=>rw [hv] at h; cases h
noncomputable def Bits.Add64 (x y c:Int):Option (Int × Int):=chk (0 ≤ x ∧ 0 ≤ y ∧ 0 ≤ c ∧ c ≤ 1) (some ((x + y + c) % 18446744073709551616,(x + y + c) / 18446744073709551616))
theorem Gives.externV [KN : Know] {P : Program} {g : FuncId} {fn : Func} {ext : Array Value → Sem Value} (hf : P.funcs[g]? = some fn) (hname : (fn.name == "runtime.NumGoroutine") = false) (hb : fn.body.isNone = true) (hn : Extern.findNext fn = none) (he : Extern.find fn = some ext)
    {vs:List Value} {av:AV} {v:Value} (hv:∀ I w μ,RelV I w μ av v) (h:∀ w,(ext vs.toArray).run P w = .ok v w):Gives P g (vs.map .lit) av:=by
  intro I μ w vals H hA
  obtain ⟨hn1,hA⟩:=hA
  have e:vals = vs.toArray:=by
    simp only [List.length_map] at hn1 hA
    apply Array.ext
    · simpa using hn1
    · intro i h1 h2
      have:=hA i (by omega)
      simp only [List.getElem_map] at this
      have:=this.lit_eq
      rw [getD_of h1] at this
      simpa using this
  subst e
  refine .inr ⟨v,w,by rw [run_callFunc_extern hf hname hb hn he,h w]; rfl,v,av,[],I,μ,rfl,⟨rfl,rfl⟩,H,hv _ _ _,Step.refl _ _ _,Pre.refl _ _ (by have:=H.len; omega)⟩
theorem Bits.Add64_ok {x y c:Int} {r:Int × Int} (h:Bits.Add64 x y c = some r):Gives Tryz.prog 191 [.lit (.int .u64 x),.lit (.int .u64 y),.lit (.int .u64 c)] (.tup [.lit (.int .u64 r.1),.lit (.int .u64 r.2)]):=by
  obtain ⟨⟨h1,h2,h3,h4⟩,h⟩:=chk_elim h
  cases h
  exact Gives.externV Tryz.func191 (by kernel_rfl) (by kernel_rfl) (by kernel_rfl) (ext:=add64Entry) (by kernel_rfl) (vs:=[.int .u64 x,.int .u64 y,.int .u64 c]) (fun _ _ _=>rel_two _ _) (fun w=>run_add64 x y c h1 h2 h3 h4 w)
def sub64Entry:Array Value → Sem Value:=fun args=>do
  let (x, y, b) ← Extern.MathBitsCarry.three "Sub64" args
  pure (Extern.MathBitsCarry.pair ((x + Extern.MathBitsCarry.m64 - y - b) % Extern.MathBitsCarry.m64) (if x < y + b then 1 else 0))
noncomputable def Bits.Sub64 (x y c:Int):Option (Int × Int):=chk (0 ≤ x ∧ x < 18446744073709551616 ∧ 0 ≤ y ∧ y < 18446744073709551616 ∧ 0 ≤ c ∧ c ≤ 1) (some ((x - y - c) % 18446744073709551616,if x < y + c then 1 else 0))
theorem run_sub64 {P:Program} (x y c:Int) (hx:0 ≤ x) (hx1:x < 18446744073709551616) (hy:0 ≤ y) (hy1:y < 18446744073709551616) (hc0:0 ≤ c) (hc:c ≤ 1) (w:World) :
    (sub64Entry #[.int .u64 x,.int .u64 y,.int .u64 c]).run P w = .ok (.tuple #[.int .u64 ((x - y - c) % 18446744073709551616),.int .u64 (if x < y + c then 1 else 0)]) w:=by
  have key:∀ k:Nat,k ≤ 1 → (sub64Entry #[.int .u64 x,.int .u64 y,.int .u64 (k:Int)]).run P w =
      .ok (Extern.MathBitsCarry.pair ((x.toNat + Extern.MathBitsCarry.m64 - y.toNat - k) % Extern.MathBitsCarry.m64) (if x.toNat < y.toNat + k then 1 else 0)) w:=by
    intro k hk
    have:k = 0 ∨ k = 1:=by omega
    rcases this with rfl | rfl <;> rfl
  obtain ⟨k,rfl⟩:=Int.eq_ofNat_of_zero_le hc0
  rw [key k (by omega)]
  obtain ⟨X,rfl⟩:=Int.eq_ofNat_of_zero_le hx
  obtain ⟨Y,rfl⟩:=Int.eq_ofNat_of_zero_le hy
  simp only [Extern.MathBitsCarry.pair,Extern.MathBitsCarry.m64,Int.toNat_natCast]
  congr 4
  · simp only [Int.ofNat_eq_natCast]
    congr 1
    omega
  · simp only [Int.ofNat_eq_natCast]
    by_cases h:X < Y + k
    · rw [if_pos h,if_pos (by omega)]; rfl
    · rw [if_neg h,if_neg (by omega)]; rfl
theorem Bits.Sub64_ok {x y c:Int} {r:Int × Int} (h:Bits.Sub64 x y c = some r):Gives Tryz.prog 192 [.lit (.int .u64 x),.lit (.int .u64 y),.lit (.int .u64 c)] (.tup [.lit (.int .u64 r.1),.lit (.int .u64 r.2)]):=by
  obtain ⟨⟨h1,h2,h3,h4,h5,h6⟩,h⟩:=chk_elim h
  cases h
  exact Gives.externV Tryz.func192 (by kernel_rfl) (by kernel_rfl) (by kernel_rfl) (ext:=sub64Entry) (by kernel_rfl) (vs:=[.int .u64 x,.int .u64 y,.int .u64 c]) (fun _ _ _=>rel_two _ _) (fun w=>run_sub64 x y c h1 h2 h3 h4 h5 h6 w)
noncomputable def Bits.Len64 (x:Int):Option Int:=chk (0 ≤ x ∧ x ≤ 18446744073709551615) (some (Lib.bitLen x.toNat))
theorem Bits.Len64_ok {x r:Int} (h:Bits.Len64 x = some r):Gives Tryz.prog 176 [.lit (.int .u64 x)] (.lit (.int .i64 r)):=by
  obtain ⟨⟨h1,h2⟩,h⟩:=chk_elim h
  cases h
  exact Gives.of_calls Tryz.func176 rfl (by kernel_rfl) (vs:=[.int .u64 x]) (fun _ _ _=>.lit _ _) (fun w=>(Tryz.bits_Len64 x w h1 h2).mono fun e w' ⟨he,hw⟩=>⟨he,hw ▸ Below.refl _ _⟩)
noncomputable def Bits.TrailingZeros64 (x:Int):Option Int:=chk (0 ≤ x ∧ x ≤ 18446744073709551615) (some (Lib.ctz 64 x.toNat))
theorem Bits.TrailingZeros64_ok {x r:Int} (h:Bits.TrailingZeros64 x = some r):Gives Tryz.prog 118 [.lit (.int .u64 x)] (.lit (.int .i64 r)):=by
  obtain ⟨⟨h1,h2⟩,h⟩:=chk_elim h
  cases h
  obtain ⟨n,rfl⟩:∃ n:Nat,x = n:=⟨x.toNat,by omega⟩
  exact Gives.of_callsK Tryz.func118 rfl (by kernel_rfl) (vs:=[.int .u64 n]) (fun _ _ _=>.lit _ _) (fun w hk=>(Any7.bits_TrailingZeros64 Tryz.lays7n29 n (by omega) w (fun _=>hk.2.2)).mono fun e w' ⟨he,hw⟩=>⟨he,hw ▸ Below.refl _ _⟩)
end Go.Q
