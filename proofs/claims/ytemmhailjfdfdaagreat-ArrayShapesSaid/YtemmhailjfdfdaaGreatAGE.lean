import Derived.Test.YtemmhailjfdfdaaGreatFD
import Derived.Test.YtemmhailjfdfdaaGreatAS
import Derived.Test.YtemmhailjfdfdaaGreatAShelf
import Derived.Test.YtemmhailjfdfdaaGreatFY
import Derived.Laws.Externs
namespace Go.Q
open Go Go.Proofs Go.RowKit
set_option maxRecDepth 10000
set_option maxHeartbeats 2000000
noncomputable instance:Know:=Know.none
noncomputable def Slcs.Clone___int_int_ (l:List Int):Option (List Int):=chk (l.length * 8 ≤ 140737488355328) (some l)
theorem Slcs.Clone___int_int__ok {l r:List Int} (h:Slcs.Clone___int_int_ l = some r):GivesN Tryz.prog 73 [.vs 1 (l.map (eI .i64))] 1 (r.map (eI .i64)):=by
  obtain ⟨h1,h⟩:=chk_elim h
  cases h
  refine ACallsK.of_swp (k:=0) Tryz.func73 rfl (by decide) rfl (st0:=⟨8,[(0,.vs 1 (l.map (eI .i64)))],[]⟩) rfl rfl (bwp_ok (C:=[]) ?_)
  conv=>whnf
  conv=>whnf
  refine HardN.eqNil rfl (e:=3) rfl rfl rfl rfl (fun b hb=>?_)
  rcases b with _ | _
  · conv=>whnf
    refine Gate.go ?_
    conv=>whnf
    refine Nm.mk ⟨(([]:List Int)).map (eI .i64),rfl,?_⟩
    conv=>whnf
    refine Gate.go ?_
    conv=>whnf
    refine Side.mk (full_le _) ?_
    conv=>whnf
    refine Side.mk (one_map (fun _ _ hc=>by simp only [AV.cells,List.mem_singleton] at hc; subst hc; rfl)) ?_
    conv=>whnf
    refine Side.mk (side_rv (m:=l) (by decide) (by show (0 + l.length) * 8 ≤ _; omega)) ?_
    conv=>whnf
    refine Nm.mk ⟨l.map (eI .i64),by rw [← List.nil_append l]; exact app_rv,?_⟩
    conv=>whnf
    exact Returns.hand (v:=.ref 0 0 (l.map (eI .i64)).length) (keep:=[1]) (frz:=[]) (m:=0) (h':=[.arr 1 (l.map (eI .i64))]) rfl rfl (WH.of (by decide) rfl rfl ⟨⟨_,rfl,.arr _ _⟩,⟨rfl,fun _ h=>by cases h⟩⟩) (.ref _ _ _ 0 rfl) ⟨rfl,rfl⟩
  · have hl:=hb rfl
    rw [List.map_eq_nil_iff] at hl
    subst hl
    conv=>whnf
    exact Returns.hand (v:=.ref 0 0 0) (keep:=[]) (frz:=[]) (m:=1) (h':=[.arr 1 []]) rfl rfl (WH.of (by decide) rfl rfl ⟨rfl,fun ob ho=>by simp only [List.mem_cons,List.not_mem_nil,or_false] at ho; exact ⟨_,ho⟩⟩) (.nilsRef 0 (by decide) (by decide)) ⟨rfl,rfl⟩
theorem rel_two {I:Nat → Prop} {w:World} {μ:MM} (a b:Value):RelV I w μ (.tup [.lit a,.lit b]) (.tuple #[a,b]):=.tup _ _ _ rfl (fun i hi=>by
  match i,hi with
  | 0,_=>exact .lit _ _
  | 1,_=>exact .lit _ _)
noncomputable def Bits.Mul (x y:Int):Option (Int × Int):=chk (0 ≤ x ∧ x < 18446744073709551616 ∧ 0 ≤ y ∧ y < 18446744073709551616) (some (x * y / 18446744073709551616,x * y % 18446744073709551616))
theorem Bits.Mul_ok {x y:Int} {r:Int × Int} (h:Bits.Mul x y = some r):Gives Tryz.prog 180 [.lit (.int .u64 x),.lit (.int .u64 y)] (.tup [.lit (.int .u64 r.1),.lit (.int .u64 r.2)]):=by
  obtain ⟨⟨h1,h2,h3,h4⟩,h⟩:=chk_elim h
  cases h
  obtain ⟨a,rfl⟩:=Int.eq_ofNat_of_zero_le h1
  obtain ⟨b,rfl⟩:=Int.eq_ofNat_of_zero_le h3
  exact Gives.of_calls Tryz.func180 rfl (by kernel_rfl) (vs:=[.int .u64 a,.int .u64 b]) (fun _ _ _=>rel_two _ _) (fun w=>(Tryz.bits_Mul a b (by omega) (by omega) w).mono fun e w' ⟨he,hw⟩=>⟨by rw [he]; simp,hw ▸ Below.refl _ _⟩)
end Go.Q
