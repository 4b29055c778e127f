import Derived.Test.YtemmhailjfdfdaaGreatFD
import Derived.Test.YtemmhailjfdfdaaGreatAS
import Derived.Test.YtemmhailjfdfdaaGreatAShelf
import Derived.Test.YtemmhailjfdfdaaGreatFY
import Derived.Laws.Externs
namespace Go.Q
open Go Go.Proofs Go.RowKit
set_option maxRecDepth 10000
set_option maxHeartbeats 2000000
noncomputable instance:Know:=Know.none
noncomputable def Slcs.Clone___int_int_ (l:List Int):Option (List Int):=chk (l.length * 8 ≤ 140737488355328) (some l)
theorem Slcs.Clone___int_int__ok {l r:List Int} (h:Slcs.Clone___int_int_ l = some r):GivesN Tryz.prog 73 [.vs 1 (l.map (eI .i64))] 1 (r.map (eI .i64)):=by
  obtain ⟨h1,h⟩:=chk_elim h
  cases h
  refine ACallsK.of_swp (k:=0) Tryz.func73 rfl (by decide) rfl (st0:=⟨8,[(0,.vs 1 (l.map (eI .i64)))],[]⟩) rfl rfl (bwp_ok (C:=[]) ?_)
  conv=>whnf
  conv=>whnf
  refine HardN.eqNil rfl (e:=3) rfl rfl rfl rfl (fun b hb=>?_)
  rcases b with _ | _
  · conv=>whnf
    refine Gate.go ?_
    conv=>whnf
    refine Nm.mk ⟨(([]:List Int)).map (eI .i64),rfl,?_⟩
    conv=>whnf
    refine Gate.go ?_
    conv=>whnf
    refine Side.mk (full_le _) ?_
    conv=>whnf
    refine Side.mk (one_map (fun _ _ hc=>by simp only [AV.cells,List.mem_singleton] at hc; subst hc; rfl)) ?_
    conv=>whnf
    refine Side.mk (side_rv (m:=l) (by decide) (by show (0 + l.length) * 8 ≤ _; omega)) ?_
    conv=>whnf
    refine Nm.mk ⟨l.map (eI .i64),by rw [← List.nil_append l]; exact app_rv,?_⟩
    conv=>whnf
    exact Returns.hand (v:=.ref 0 0 (l.map (eI .i64)).length) (keep:=[1]) (frz:=[]) (m:=0) (h':=[.arr 1 (l.map (eI .i64))]) rfl rfl (WH.of (by decide) rfl rfl ⟨⟨_,rfl,.arr _ _⟩,⟨rfl,fun _ h=>by cases h⟩⟩) (.ref _ _ _ 0 rfl) ⟨rfl,rfl⟩
  · have hl:=hb rfl
    rw [List.map_eq_nil_iff] at hl
    subst hl
    conv=>whnf
    exact Returns.hand (v:=.ref 0 0 0) (keep:=[]) (frz:=[]) (m:=1) (h':=[.arr 1 []]) rfl rfl (WH.of (by decide) rfl rfl ⟨rfl,fun ob ho=>by simp only [List.mem_cons,List.not_mem_nil,or_false] at ho; exact ⟨_,ho⟩⟩) (.nilsRef 0 (by decide) (by decide)) ⟨rfl,rfl⟩
noncomputable def Bits.Add64 (x y c:Int):Option (Int × Int):=chk (0 ≤ x ∧ 0 ≤ y ∧ 0 ≤ c ∧ c ≤ 1) (some ((x + y + c) % 18446744073709551616,(x + y + c) / 18446744073709551616))
theorem rel_two {I:Nat → Prop} {w:World} {μ:MM} (a b:Value):RelV I w μ (.tup [.lit a,.lit b]) (.tuple #[a,b]):=.tup _ _ _ rfl (fun i hi=>by
  match i,hi with
  | 0,_=>exact .lit _ _
  | 1,_=>exact .lit _ _)
theorem Gives.externV [KN : Know] {P : Program} {g : FuncId} {fn : Func} {ext : Array Value → Sem Value} (hf : P.funcs[g]? = some fn) (hname : (fn.name == "runtime.NumGoroutine") = false) (hb : fn.body.isNone = true) (hn : Extern.findNext fn = none) (he : Extern.find fn = some ext)
    {vs:List Value} {av:AV} {v:Value} (hv:∀ I w μ,RelV I w μ av v) (h:∀ w,(ext vs.toArray).run P w = .ok v w):Gives P g (vs.map .lit) av:=by
  intro I μ w vals H hA
  obtain ⟨hn1,hA⟩:=hA
  have e:vals = vs.toArray:=by
    simp only [List.length_map] at hn1 hA
    apply Array.ext
    · simpa using hn1
    · intro i h1 h2
      have:=hA i (by omega)
      simp only [List.getElem_map] at this
      have:=this.lit_eq
      rw [getD_of h1] at this
      simpa using this
  subst e
  refine .inr ⟨v,w,by rw [run_callFunc_extern hf hname hb hn he,h w]; rfl,v,av,[],I,μ,rfl,⟨rfl,rfl⟩,H,hv _ _ _,Step.refl _ _ _,Pre.refl _ _ (by have:=H.len; omega)⟩
theorem Bits.Add64_ok {x y c:Int} {r:Int × Int} (h:Bits.Add64 x y c = some r):Gives Tryz.prog 208 [.lit (.int .u64 x),.lit (.int .u64 y),.lit (.int .u64 c)] (.tup [.lit (.int .u64 r.1),.lit (.int .u64 r.2)]):=by
  obtain ⟨⟨h1,h2,h3,h4⟩,h⟩:=chk_elim h
  cases h
  exact Gives.externV Tryz.func208 (by kernel_rfl) (by kernel_rfl) (by kernel_rfl) (ext:=add64Entry) (by kernel_rfl) (vs:=[.int .u64 x,.int .u64 y,.int .u64 c]) (fun _ _ _=>rel_two _ _) (fun w=>run_add64 x y c h1 h2 h3 h4 w)
def sub64Entry:Array Value → Sem Value:=fun args=>do
  let (x, y, b) ← Extern.MathBitsCarry.three "Sub64" args
  pure (Extern.MathBitsCarry.pair ((x + Extern.MathBitsCarry.m64 - y - b) % Extern.MathBitsCarry.m64) (if x < y + b then 1 else 0))
noncomputable def Bits.Sub64 (x y c:Int):Option (Int × Int):=chk (0 ≤ x ∧ x < 18446744073709551616 ∧ 0 ≤ y ∧ y < 18446744073709551616 ∧ 0 ≤ c ∧ c ≤ 1) (some ((x - y - c) % 18446744073709551616,if x < y + c then 1 else 0))
theorem run_sub64 {P:Program} (x y c:Int) (hx:0 ≤ x) (hx1:x < 18446744073709551616) (hy:0 ≤ y) (hy1:y < 18446744073709551616) (hc0:0 ≤ c) (hc:c ≤ 1) (w:World) :
    (sub64Entry #[.int .u64 x,.int .u64 y,.int .u64 c]).run P w = .ok (.tuple #[.int .u64 ((x - y - c) % 18446744073709551616),.int .u64 (if x < y + c then 1 else 0)]) w:=by
  have key:∀ k:Nat,k ≤ 1 → (sub64Entry #[.int .u64 x,.int .u64 y,.int .u64 (k:Int)]).run P w =
      .ok (Extern.MathBitsCarry.pair ((x.toNat + Extern.MathBitsCarry.m64 - y.toNat - k) % Extern.MathBitsCarry.m64) (if x.toNat < y.toNat + k then 1 else 0)) w:=by
    intro k hk
    have:k = 0 ∨ k = 1:=by omega
    rcases this with rfl | rfl <;> rfl
  obtain ⟨k,rfl⟩:=Int.eq_ofNat_of_zero_le hc0
  rw [key k (by omega)]
  obtain ⟨X,rfl⟩:=Int.eq_ofNat_of_zero_le hx
  obtain ⟨Y,rfl⟩:=Int.eq_ofNat_of_zero_le hy
  simp only [Extern.MathBitsCarry.pair,Extern.MathBitsCarry.m64,Int.toNat_natCast]
  congr 4
  · simp only [Int.ofNat_eq_natCast]
    congr 1
    omega
  · simp only [Int.ofNat_eq_natCast]
    by_cases h:X < Y + k
    · rw [if_pos h,if_pos (by omega)]; rfl
    · rw [if_neg h,if_neg (by omega)]; rfl
theorem Bits.Sub64_ok {x y c:Int} {r:Int × Int} (h:Bits.Sub64 x y c = some r):Gives Tryz.prog 209 [.lit (.int .u64 x),.lit (.int .u64 y),.lit (.int .u64 c)] (.tup [.lit (.int .u64 r.1),.lit (.int .u64 r.2)]):=by
  obtain ⟨⟨h1,h2,h3,h4,h5,h6⟩,h⟩:=chk_elim h
  cases h
  exact Gives.externV Tryz.func209 (by kernel_rfl) (by kernel_rfl) (by kernel_rfl) (ext:=sub64Entry) (by kernel_rfl) (vs:=[.int .u64 x,.int .u64 y,.int .u64 c]) (fun _ _ _=>rel_two _ _) (fun w=>run_sub64 x y c h1 h2 h3 h4 h5 h6 w)
noncomputable def Bits.Len64 (x:Int):Option Int:=chk (0 ≤ x ∧ x ≤ 18446744073709551615) (some (Lib.bitLen x.toNat))
theorem Bits.Len64_ok {x r:Int} (h:Bits.Len64 x = some r):Gives Tryz.prog 207 [.lit (.int .u64 x)] (.lit (.int .i64 r)):=by
  obtain ⟨⟨h1,h2⟩,h⟩:=chk_elim h
  cases h
  exact Gives.of_calls Tryz.func207 rfl (by kernel_rfl) (vs:=[.int .u64 x]) (fun _ _ _=>.lit _ _) (fun w=>(Tryz.bits_Len64 x w h1 h2).mono fun e w' ⟨he,hw⟩=>⟨he,hw ▸ Below.refl _ _⟩)
noncomputable def Bits.LeadingZeros64 (x:Int):Option Int:=chk (0 ≤ x ∧ x ≤ 18446744073709551615) (some (64 - (Lib.bitLen x.toNat:Int)))
theorem Bits.LeadingZeros64_ok {x r:Int} (h:Bits.LeadingZeros64 x = some r):Gives Tryz.prog 203 [.lit (.int .u64 x)] (.lit (.int .i64 r)):=by
  obtain ⟨⟨h1,h2⟩,h⟩:=chk_elim h
  cases h
  exact Gives.of_calls Tryz.func203 rfl (by kernel_rfl) (vs:=[.int .u64 x]) (fun _ _ _=>.lit _ _) (fun w=>(Tryz.bits_LeadingZeros64 x w h1 h2).mono fun e w' ⟨he,hw⟩=>⟨he,hw ▸ Below.refl _ _⟩)
noncomputable def Bits.Mul64 (x y:Int):Option (Int × Int):=chk (0 ≤ x ∧ x < 18446744073709551616 ∧ 0 ≤ y ∧ y < 18446744073709551616) (some (x * y / 18446744073709551616,x * y % 18446744073709551616))
theorem Bits.Mul64_ok {x y:Int} {r:Int × Int} (h:Bits.Mul64 x y = some r):Gives Tryz.prog 193 [.lit (.int .u64 x),.lit (.int .u64 y)] (.tup [.lit (.int .u64 r.1),.lit (.int .u64 r.2)]):=by
  obtain ⟨⟨h1,h2,h3,h4⟩,h⟩:=chk_elim h
  cases h
  obtain ⟨a,rfl⟩:=Int.eq_ofNat_of_zero_le h1
  obtain ⟨b,rfl⟩:=Int.eq_ofNat_of_zero_le h3
  exact Gives.of_calls Tryz.func193 rfl (by kernel_rfl) (vs:=[.int .u64 a,.int .u64 b]) (fun _ _ _=>rel_two _ _) (fun w=>(Tryz.bits_Mul64 a b (by omega) (by omega) w).mono fun e w' ⟨he,hw⟩=>⟨by rw [he]; simp,hw ▸ Below.refl _ _⟩)
end Go.Q
