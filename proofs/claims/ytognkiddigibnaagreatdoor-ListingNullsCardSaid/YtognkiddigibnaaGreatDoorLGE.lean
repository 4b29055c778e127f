import Derived.Test.YtognkiddigibnaaGreatDoorFD
import Derived.Test.YtognkiddigibnaaGreatDoorPS
import Derived.Test.YtognkiddigibnaaGreatDoorLGS
import Derived.Test.YtognkiddigibnaaGreatDoorLKS
import Derived.Test.YtognkiddigibnaaGreatDoorLShelf
import Derived.Test.YtognkiddigibnaaGreatDoorFX
import Derived.Test.YtognkiddigibnaaGreatDoorFY
import Derived.Shelf.Strings.SlTrimAscii
import Derived.WalkSmall
namespace Go.Q
open Go Go.Proofs Go.RowKit
set_option maxRecDepth 10000
set_option maxHeartbeats 2000000
def Asc (s:ByteArray):Prop:=∀ (j:Nat) b,s.data.toList[j]? = some b → b.toNat < 128
noncomputable def Strs.IndexAny (s t:ByteArray):Option Int:=chk (s.size < 4294967281 ∧ t.size < 4294967281 ∧ Asc s ∧ Asc t) (some (Lib.indexAny (L s) (L t)))
theorem Strs.IndexAny_ok {s t:ByteArray} {r:Int} (h:Strs.IndexAny s t = some r):Gives Tryz.prog 66 [.lit (.string s),.lit (.string t)] (.lit (.int .i64 r)):=by
  obtain ⟨⟨h1,h2,h3,h4⟩,h⟩:=chk_elim h
  cases h
  exact Gives.of_calls Tryz.func66 rfl (by kernel_rfl) (vs:=[.string s,.string t]) (fun _ _ _=>.lit _ _) (fun w=>Tryz.strings_IndexAny_laid s t w h1 h2 h3 h4)
theorem rel_three {I:Nat → Prop} {w:World} {μ:MM} (a b c:Value):RelV I w μ (.tup [.lit a,.lit b,.lit c]) (.tuple #[a,b,c]):=.tup _ _ _ rfl (fun i hi=>by
  match i,hi with
  | 0,_=>exact .lit _ _
  | 1,_=>exact .lit _ _
  | 2,_=>exact .lit _ _)
noncomputable def Strs.Cut (s t:ByteArray):Option (ByteArray × ByteArray × Bool):=chk (s.size < 4294967281) (some (B (Lib.cut (L s) (L t)).1,B (Lib.cut (L s) (L t)).2.1,(Lib.cut (L s) (L t)).2.2))
theorem Strs.Cut_ok {s t:ByteArray} {r:ByteArray × ByteArray × Bool} (h:Strs.Cut s t = some r):Gives Tryz.prog 67 [.lit (.string s),.lit (.string t)] (.tup [.lit (.string r.1),.lit (.string r.2.1),.lit (.bool r.2.2)]):=by
  obtain ⟨h1,h⟩:=chk_elim h
  cases h
  exact Gives.of_callsK Tryz.func67 rfl (by kernel_rfl) (vs:=[.string s,.string t]) (fun _ _ _=>rel_three _ _ _) (fun w ⟨⟨m,hm⟩,_⟩=>(Tryz.strings_Cut s t m w h1 hm).mono fun e w' ⟨he,n,hw⟩=>⟨he,hw ▸ below_drewN (Below.refl _ _) n⟩)
noncomputable def Strs.TrimLeft (s t:ByteArray):Option ByteArray:=chk (t.size < 4294967281 ∧ Asc t) (some (B (Lib.trimLeftS (L s) (L t))))
theorem Strs.TrimLeft_ok {s t r:ByteArray} (h:Strs.TrimLeft s t = some r):Gives Tryz.prog 68 [.lit (.string s),.lit (.string t)] (.lit (.string r)):=by
  obtain ⟨⟨h1,h2⟩,h⟩:=chk_elim h
  cases h
  exact Gives.of_calls Tryz.func68 rfl (by kernel_rfl) (vs:=[.string s,.string t]) (fun _ _ _=>.lit _ _) (fun w=>Any.strings_TrimLeft_laid Tryz.lays161 (by kernel_rfl) s t w h1 h2)
noncomputable def Strs.Trim (s t:ByteArray):Option ByteArray:=chk (s.size ≤ 9223372036854775807 ∧ t.size < 4294967281 ∧ Asc t) (some (B (Lib.trimS (L s) (L t))))
theorem Strs.Trim_ok {s t r:ByteArray} (h:Strs.Trim s t = some r):Gives Tryz.prog 70 [.lit (.string s),.lit (.string t)] (.lit (.string r)):=by
  obtain ⟨⟨h0,h1,h2⟩,h⟩:=chk_elim h
  cases h
  exact Gives.of_calls Tryz.func70 rfl (by kernel_rfl) (vs:=[.string s,.string t]) (fun _ _ _=>.lit _ _) (fun w=>Any.strings_Trim_laid Tryz.lays160 (by kernel_rfl) s t w h0 h1 h2)
theorem GivesE.of_calls [KN : Know] {P : Program} {g : FuncId} {fn : Func} {c : Code} (hf : P.funcs[g]? = some fn) (hb : fn.body = some c) (hname : (fn.name == "runtime.NumGoroutine") = false) {vs : List Value} {av : Nat → AV} {v : Nat → Value}
    (hv:∀ N I w μ,RelV I w μ (av N) (v N)) (h:∀ w,KN.holds w → Calls P g vs.toArray w fun e w'=>∃ N,e = .returned (v N) ∧ Below w.heap.size w w'):GivesE P g (vs.map .lit) av:=by
  intro I μ w vals H hA
  obtain ⟨hn1,hA⟩:=hA
  have e:vals = vs.toArray:=by
    simp only [List.length_map] at hn1 hA
    apply Array.ext
    · simpa using hn1
    · intro i h1 h2
      have:=hA i (by omega)
      simp only [List.getElem_map] at this
      have:=this.lit_eq
      rw [getD_of h1] at this
      simpa using this
  subst e
  have hμ:μ = []:=List.eq_nil_of_length_eq_zero (by rw [H.len]; rfl)
  subst hμ
  refine .inl ⟨run_enter hf hb hname _ _,(h w H.know.2).mono ?_⟩
  rintro e w' ⟨N,rfl,hb⟩
  exact ⟨v N,av N,[],I,[],rfl,⟨N,rfl,rfl⟩,relH_nil (fun b hI=>Nat.lt_of_lt_of_le (H.imm b hI) hb.size) (H.know.step (fun _ h=>h) (fun b hI=>hb.block b (H.imm b hI))),hv _ _ _ _,⟨fun _ h=>h,hb.size,fun b h1 _=>hb.block b h1,fun _ h=>.inl h,fun _ h=>.inl h,hb.os,hb.output⟩,Pre.refl _ _ (by simp)⟩
noncomputable def Strconv.Atoi (s:ByteArray):Option (Int × Bool):=chk (s.size ≤ 281474976710656) (some (match Lib.atoiAll (L s) with | .ok v=>(v,true) | Lib.NumEnd.syntax=>(0,false) | .range=>(Lib.atoiSat (L s),false)))
theorem rel_two {I:Nat → Prop} {w:World} {μ:MM} (a b:Value):RelV I w μ (.tup [.lit a,.lit b]) (.tuple #[a,b]):=.tup _ _ _ rfl (fun i hi=>by
  match i,hi with
  | 0,_=>exact .lit _ _
  | 1,_=>exact .lit _ _)
theorem Strconv.Atoi_ok {s:ByteArray} {n:Int} (h:Strconv.Atoi s = some (n,true)):Gives Tryz.prog 69 [.lit (.string s)] (.tup [.lit (.int .i64 n),.lit Value.nilIface]):=by
  obtain ⟨h1,h⟩:=chk_elim h
  cases hv:Lib.atoiAll (L s) with
  | ok v =>
    rw [hv] at h
    cases h
    refine Gives.of_calls Tryz.func69 rfl (by kernel_rfl) (vs:=[.string s]) (v:=.tuple #[.int .i64 n,.nilIface]) (fun _ _ _=>rel_two _ _) (fun w=>(Tryz.strconv_Atoi_ok s (by omega) n hv w).mono fun e w' ⟨he,hw⟩=>⟨he,?_⟩)
    rcases hw with rfl | ⟨t,rfl⟩
    · exact Below.refl _ _
    · exact Lib.bytesWorld_below _ _ _
  | _=>rw [hv] at h; cases h
theorem Strconv.Atoi_err {s:ByteArray} {n:Int} (h:Strconv.Atoi s = some (n,false)):GivesE Tryz.prog 69 [.lit (.string s)] (fun N=>.tup [.lit (.int .i64 n),.lit (.iface 200 (.pointer (some ⟨N,0,none⟩)))]):=by
  obtain ⟨h1,h⟩:=chk_elim h
  match hv:Lib.atoiAll (L s) with
  | .ok v=>rw [hv] at h; cases h
  | Lib.NumEnd.syntax =>
    rw [hv] at h
    cases h
    exact GivesE.of_calls Tryz.func69 rfl (by kernel_rfl) (vs:=[.string s]) (v:=fun N=>.tuple #[.int .i64 0,.iface 200 (.pointer (some ⟨N,0,none⟩))]) (fun _ _ _ _=>rel_two _ _) (fun w ⟨_,⟨t,p,hc⟩,_⟩=>(Tryz.strconv_Atoi_syntax s h1 hv _ w hc (.inr ⟨t,p,rfl⟩)).mono fun e w' ⟨N,he,_,_,hw⟩=>⟨N,he,hw⟩)
  | .range =>
    rw [hv] at h
    cases h
    exact GivesE.of_calls Tryz.func69 rfl (by kernel_rfl) (vs:=[.string s]) (v:=fun N=>.tuple #[.int .i64 (Lib.atoiSat (L s)),.iface 200 (.pointer (some ⟨N,0,none⟩))]) (fun _ _ _ _=>rel_two _ _) (fun w ⟨_,_,⟨t,p,hc⟩⟩=>(Tryz.strconv_Atoi_range s h1 hv _ w hc (.inr ⟨t,p,rfl⟩)).mono fun e w' ⟨N,he,_,_,hw⟩=>⟨N,he,hw⟩)
noncomputable def Slcs.CloneV (l:List api.Value):Option (List api.Value):=chk (l.length * 16 ≤ 140737488355328) (some l)
theorem Slcs.CloneV_ok {l r:List api.Value} (h:Slcs.CloneV l = some r):GivesN Tryz.prog 37 [.vs 2 (l.map api.Value.enc)] 2 (r.map api.Value.enc):=by
  obtain ⟨h1,h⟩:=chk_elim h
  cases h
  refine ACallsK.of_swp (k:=0) Tryz.func37 rfl (by decide) rfl (st0:=⟨8,[(0,.vs 2 (l.map api.Value.enc))],[]⟩) rfl rfl (bwp_ok (C:=[]) ?_)
  conv=>whnf
  conv=>whnf
  refine HardN.eqNil rfl Tryz.underlying22 rfl rfl rfl (fun b hb=>?_)
  rcases b with _ | _
  · conv=>whnf
    refine Gate.go ?_
    conv=>whnf
    refine Nm.mk ⟨(([]:List api.Value)).map api.Value.enc,rfl,?_⟩
    conv=>whnf
    refine Gate.go ?_
    conv=>whnf
    refine Side.mk (full_le _) ?_
    conv=>whnf
    refine Side.mk (one_map (fun _ _ hc=>by simp only [api.Value.enc,AV.cells,List.mem_cons,List.not_mem_nil,or_false] at hc; rcases hc with rfl | rfl <;> rfl)) ?_
    conv=>whnf
    refine Side.mk (side_rv (m:=l) (by decide) (by show (0 + l.length) * 16 ≤ _; omega)) ?_
    conv=>whnf
    refine Nm.mk ⟨l.map api.Value.enc,by rw [← List.nil_append l]; exact app_rv,?_⟩
    conv=>whnf
    exact Returns.hand (v:=.ref 0 0 (l.map api.Value.enc).length) (keep:=[1]) (frz:=[]) (m:=0) (h':=[.arr 2 (l.map api.Value.enc)]) rfl rfl (WH.of (by decide) rfl rfl ⟨⟨_,rfl,.arr _ _⟩,⟨rfl,fun _ h=>by cases h⟩⟩) (.ref _ _ _ 0 rfl) ⟨rfl,rfl⟩
  · have hl:=hb rfl
    rw [List.map_eq_nil_iff] at hl
    subst hl
    conv=>whnf
    exact Returns.hand (v:=.ref 0 0 0) (keep:=[]) (frz:=[]) (m:=1) (h':=[.arr 2 []]) rfl rfl (WH.of (by decide) rfl rfl ⟨rfl,fun ob ho=>by simp only [List.mem_cons,List.not_mem_nil,or_false] at ho; exact ⟨_,ho⟩⟩) (.nilsRef 0 (by decide) (by decide)) ⟨rfl,rfl⟩
end Go.Q
