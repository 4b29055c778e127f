import Derived.Test.YtoecgpemlfoogaaGreatDoorFD
import Derived.Test.YtoecgpemlfoogaaGreatDoorPS
import Derived.Test.YtoecgpemlfoogaaGreatDoorNGS
import Derived.Test.YtoecgpemlfoogaaGreatDoorGKS
import Derived.Test.YtoecgpemlfoogaaGreatDoorGShelf
import Derived.Test.YtoecgpemlfoogaaGreatDoorFX
namespace Go.Q
open Go Go.Proofs Go.RowKit
set_option maxRecDepth 10000
theorem Gives.of_strings [KN : Know] {P : Program} {g : FuncId} {fn : Func} {c : Code} (hf : P.funcs[g]? = some fn) (hb : fn.body = some c) (hname : (fn.name == "runtime.NumGoroutine") = false) {vs : List Value} {xs : List ByteArray} {T : TypeId}
    (h:∀ w,KN.holds w → Calls P g vs.toArray w fun e w'=>e = .returned (.slice (some ⟨w.heap.size,0,none⟩) xs.length xs.length) ∧ w' = w.alloc (.cells (xs.map Value.string).toArray T)):Gives P g (vs.map .lit) (.vs 1 (xs.map eS)):=by
  intro I μ w vals H hA
  obtain ⟨hn1,hA⟩:=hA
  have e:vals = vs.toArray:=by
    simp only [List.length_map] at hn1 hA
    apply Array.ext
    · simpa using hn1
    · intro i h1 h2
      have:=hA i (by omega)
      simp only [List.getElem_map] at this
      have:=this.lit_eq
      rw [getD_of h1] at this
      simpa using this
  subst e
  have hμ:μ = []:=List.eq_nil_of_length_eq_zero (by rw [H.len]; rfl)
  subst hμ
  refine .inl ⟨run_enter hf hb hname _ _,(h w H.know.2).mono ?_⟩
  rintro e w' ⟨rfl,rfl⟩
  have hold:∀ b,b < w.heap.size → (w.alloc (.cells (xs.map Value.string).toArray T)).heap[b]? = w.heap[b]?:=fun b hb=>by
    show (w.heap.push _)[b]? = _
    rw [Array.getElem?_push_lt hb,Array.getElem?_eq_getElem hb]
  have hsz:(w.alloc (.cells (xs.map Value.string).toArray T)).heap.size = w.heap.size + 1:=by
    show (w.heap.push _).size = _
    simp
  have hcell:∀ j x,xs[j]? = some x → (w.alloc (.cells (xs.map Value.string).toArray T)).cell? ⟨w.heap.size,j,none⟩ = some (.string x):=fun j x hx=>by
    have hk:(w.alloc (.cells (xs.map Value.string).toArray T)).heap[w.heap.size]? = some (.cells (xs.map Value.string).toArray T):=by
      show (w.heap.push _)[w.heap.size]? = _
      simp
    unfold World.cell?
    simp only [hk]
    show (xs.map Value.string).toArray[j]? = _
    rw [List.getElem?_toArray,List.getElem?_map,hx]; rfl
  refine ⟨_,_,[],(fun b=>I b ∨ b = w.heap.size),[],rfl,⟨rfl,rfl⟩,relH_nil (fun b hI=>?_) (H.know.step (fun _ h=>.inl h) (fun b hI=>hold b (H.imm b hI))),?_,⟨fun _ h=>.inl h,by omega,fun b h1 _=>hold b h1,fun _ h=>.inl h,fun b h=>?_,rfl,rfl⟩,Pre.refl _ _ (by simp)⟩
  · rcases hI with h | rfl
    · have:=H.imm b h; omega
    · omega
  · have hR:=RelV.vs (I:=fun b=>I b ∨ b = w.heap.size) (w:=w.alloc (.cells (xs.map Value.string).toArray T)) [] 1 (xs.map eS) (some ⟨w.heap.size,0,none⟩) xs.length (fun i _=>.string (xs.getD i ⟨#[]⟩)) (by simp)
      (fun h0=>⟨w.heap.size,0,rfl,.inr rfl,fun i j hi hj=>by
        have hi':i < xs.length:=by simpa using hi
        obtain rfl:j = 0:=by omega
        have:=hcell i xs[i] (List.getElem?_eq_getElem hi')
        simp only [Nat.mul_one,Nat.add_zero,Nat.zero_add]
        rw [this,List.getD_eq_getElem?_getD,List.getElem?_eq_getElem hi']; rfl⟩)
      (fun i hi=>by simp [eS,AV.cells])
      (fun i hi j hj=>by
        have hi':i < xs.length:=by simpa using hi
        have:((xs.map eS)[i]'hi).cells[j] = .lit (.string (xs.getD i ⟨#[]⟩)):=by
          simp only [List.getElem_map,eS,AV.cells,List.getElem_singleton]
          rw [List.getD_eq_getElem?_getD,List.getElem?_eq_getElem hi']; rfl
        rw [this]; exact .lit _ _)
    rw [List.length_map] at hR
    exact hR
  · rcases h with h | rfl
    · exact .inl h
    · exact .inr (.inr (Nat.le_refl _))
noncomputable def Balg.IndexByteString (s:ByteArray) (c:Int):Option Int:=some (Lib.indexByte (L s) c.toNat.toUInt8)
theorem Balg.IndexByteString_ok {s:ByteArray} {c r:Int} (h:Balg.IndexByteString s c = some r):Gives Tryz.prog 102 [.lit (.string s),.lit (.int .u8 c)] (.lit (.int .i64 r)):=by
  cases h
  exact Gives.extern Tryz.func102 (by kernel_rfl) (by kernel_rfl) (by kernel_rfl) (ext:=Extern.BytealgIndexByte.indexByte) (by kernel_rfl) (vs:=[.string s,.int .u8 c]) (fun w=>Lib.run_indexByteString s c w)
noncomputable def Strs.TrimLeft (s t:ByteArray):Option ByteArray:=chk (t = ⟨#[32]⟩) (some (B (Lib.trimLeftB (L s) 32)))
theorem Strs.TrimLeft_ok {s t r:ByteArray} (h:Strs.TrimLeft s t = some r):Gives Tryz.prog 47 [.lit (.string s),.lit (.string t)] (.lit (.string r)):=by
  obtain ⟨h1,h⟩:=chk_elim h
  cases h
  subst h1
  exact Gives.of_calls Tryz.func47 rfl (by kernel_rfl) (vs:=[.string s,.string ⟨#[32]⟩]) (fun _ _ _=>.lit _ _) (fun w=>(Tryz.strings_TrimLeft_one s 32 (by decide) w).mono fun e w' ⟨he,hw⟩=>⟨he,hw ▸ Below.refl _ _⟩)
noncomputable def Strs.TrimRight (s t:ByteArray):Option ByteArray:=chk (s.size ≤ 9223372036854775807 ∧ t = ⟨#[32]⟩) (some (B (Lib.trimRightB (L s) 32)))
theorem Strs.TrimRight_ok {s t r:ByteArray} (h:Strs.TrimRight s t = some r):Gives Tryz.prog 77 [.lit (.string s),.lit (.string t)] (.lit (.string r)):=by
  obtain ⟨⟨h1,h2⟩,h⟩:=chk_elim h
  cases h
  subst h2
  exact Gives.of_calls Tryz.func77 rfl (by kernel_rfl) (vs:=[.string s,.string ⟨#[32]⟩]) (fun _ _ _=>.lit _ _) (fun w=>(Tryz.strings_TrimRight_one s 32 (by decide) w h1).mono fun e w' ⟨he,hw⟩=>⟨he,hw ▸ Below.refl _ _⟩)
noncomputable def Strs.Trim (s t:ByteArray):Option ByteArray:=chk (s.size ≤ 9223372036854775807 ∧ t = ⟨#[32]⟩) (some (B (Lib.trimB (L s) 32)))
theorem Strs.Trim_ok {s t r:ByteArray} (h:Strs.Trim s t = some r):Gives Tryz.prog 57 [.lit (.string s),.lit (.string t)] (.lit (.string r)):=by
  obtain ⟨⟨h1,h2⟩,h⟩:=chk_elim h
  cases h
  subst h2
  refine Gives.of_calls Tryz.func57 rfl (by kernel_rfl) (vs:=[.string s,.string ⟨#[32]⟩]) (fun _ _ _=>.lit _ _) (fun w=>(Tryz.strings_Trim_one s 32 (by decide) w h1).mono fun e w' ⟨he,hw⟩=>⟨he,?_⟩)
  rcases hw with rfl | rfl
  · exact Below.refl _ _
  · exact (Below.refl _ _).drew
noncomputable def Strs.Split (s t:ByteArray):Option (List ByteArray):=chk (s.size < 4294967281 ∧ 1 ≤ t.size) (some (Lib.splitB t 0 (Lib.countB s t) s))
theorem Strs.Split_ok {s t:ByteArray} {r:List ByteArray} (h:Strs.Split s t = some r):Gives Tryz.prog 54 [.lit (.string s),.lit (.string t)] (.vs 1 (r.map eS)):=by
  obtain ⟨⟨h1,h2⟩,h⟩:=chk_elim h
  cases h
  refine Gives.of_strings Tryz.func54 rfl (by kernel_rfl) (vs:=[.string s,.string t]) (T:=9) (fun w ⟨⟨m,hm⟩,_⟩=>?_)
  have hlen:=Lib.splitB_all t h2 0 _ s rfl
  rw [hlen]
  exact Tryz.strings_Split s t m w h1 hm h2
noncomputable def Strs.Repeat (s:ByteArray) (c:Int):Option ByteArray:=chk (0 ≤ c ∧ c ≤ 9223372036854775807 ∧ s.size * c.toNat ≤ 140737488355328) (some (B (Lib.repeatL (L s) c.toNat)))
theorem Strs.Repeat_ok {s r:ByteArray} {c:Int} (h:Strs.Repeat s c = some r):Gives Tryz.prog 43 [.lit (.string s),.lit (.int .i64 c)] (.lit (.string r)):=by
  obtain ⟨⟨h0,h1,h2⟩,h⟩:=chk_elim h
  cases h
  obtain ⟨n,rfl⟩:∃ n:Nat,c = n:=⟨c.toNat,by omega⟩
  exact Gives.of_calls Tryz.func43 rfl (by kernel_rfl) (vs:=[.string s,.int .i64 n]) (fun _ _ _=>.lit _ _) (fun w=>Tryz.strings_Repeat s n w (by omega) h2)
theorem GivesE.of_calls [KN : Know] {P : Program} {g : FuncId} {fn : Func} {c : Code} (hf : P.funcs[g]? = some fn) (hb : fn.body = some c) (hname : (fn.name == "runtime.NumGoroutine") = false) {vs : List Value} {av : Nat → AV} {v : Nat → Value}
    (hv:∀ N I w μ,RelV I w μ (av N) (v N)) (h:∀ w,KN.holds w → Calls P g vs.toArray w fun e w'=>∃ N,e = .returned (v N) ∧ Below w.heap.size w w'):GivesE P g (vs.map .lit) av:=by
  intro I μ w vals H hA
  obtain ⟨hn1,hA⟩:=hA
  have e:vals = vs.toArray:=by
    simp only [List.length_map] at hn1 hA
    apply Array.ext
    · simpa using hn1
    · intro i h1 h2
      have:=hA i (by omega)
      simp only [List.getElem_map] at this
      have:=this.lit_eq
      rw [getD_of h1] at this
      simpa using this
  subst e
  have hμ:μ = []:=List.eq_nil_of_length_eq_zero (by rw [H.len]; rfl)
  subst hμ
  refine .inl ⟨run_enter hf hb hname _ _,(h w H.know.2).mono ?_⟩
  rintro e w' ⟨N,rfl,hb⟩
  exact ⟨v N,av N,[],I,[],rfl,⟨N,rfl,rfl⟩,relH_nil (fun b hI=>Nat.lt_of_lt_of_le (H.imm b hI) hb.size) (H.know.step (fun _ h=>h) (fun b hI=>hb.block b (H.imm b hI))),hv _ _ _ _,⟨fun _ h=>h,hb.size,fun b h1 _=>hb.block b h1,fun _ h=>.inl h,fun _ h=>.inl h,hb.os,hb.output⟩,Pre.refl _ _ (by simp)⟩
noncomputable def Strconv.Atoi (s:ByteArray):Option (Int × Bool):=chk (s.size ≤ 281474976710656) (some (match Lib.atoiAll (L s) with | .ok v=>(v,true) | Lib.NumEnd.syntax=>(0,false) | .range=>(Lib.atoiSat (L s),false)))
theorem rel_two {I:Nat → Prop} {w:World} {μ:MM} (a b:Value):RelV I w μ (.tup [.lit a,.lit b]) (.tuple #[a,b]):=.tup _ _ _ rfl (fun i hi=>by
  match i,hi with
  | 0,_=>exact .lit _ _
  | 1,_=>exact .lit _ _)
theorem Strconv.Atoi_ok {s:ByteArray} {n:Int} (h:Strconv.Atoi s = some (n,true)):Gives Tryz.prog 85 [.lit (.string s)] (.tup [.lit (.int .i64 n),.lit Value.nilIface]):=by
  obtain ⟨h1,h⟩:=chk_elim h
  cases hv:Lib.atoiAll (L s) with
  | ok v =>
    rw [hv] at h
    cases h
    refine Gives.of_calls Tryz.func85 rfl (by kernel_rfl) (vs:=[.string s]) (v:=.tuple #[.int .i64 n,.nilIface]) (fun _ _ _=>rel_two _ _) (fun w=>(Tryz.strconv_Atoi_ok s (by omega) n hv w).mono fun e w' ⟨he,hw⟩=>⟨he,?_⟩)
    rcases hw with rfl | ⟨t,rfl⟩
    · exact Below.refl _ _
    · exact Lib.bytesWorld_below _ _ _
  | _=>rw [hv] at h; cases h
theorem Strconv.Atoi_err {s:ByteArray} {n:Int} (h:Strconv.Atoi s = some (n,false)):GivesE Tryz.prog 85 [.lit (.string s)] (fun N=>.tup [.lit (.int .i64 n),.lit (.iface 122 (.pointer (some ⟨N,0,none⟩)))]):=by
  obtain ⟨h1,h⟩:=chk_elim h
  match hv:Lib.atoiAll (L s) with
  | .ok v=>rw [hv] at h; cases h
  | Lib.NumEnd.syntax =>
    rw [hv] at h
    cases h
    exact GivesE.of_calls Tryz.func85 rfl (by kernel_rfl) (vs:=[.string s]) (v:=fun N=>.tuple #[.int .i64 0,.iface 122 (.pointer (some ⟨N,0,none⟩))]) (fun _ _ _ _=>rel_two _ _) (fun w ⟨_,⟨t,p,hc⟩,_⟩=>(Tryz.strconv_Atoi_syntax s h1 hv _ w hc (.inr ⟨t,p,rfl⟩)).mono fun e w' ⟨N,he,_,_,hw⟩=>⟨N,he,hw⟩)
  | .range =>
    rw [hv] at h
    cases h
    exact GivesE.of_calls Tryz.func85 rfl (by kernel_rfl) (vs:=[.string s]) (v:=fun N=>.tuple #[.int .i64 (Lib.atoiSat (L s)),.iface 122 (.pointer (some ⟨N,0,none⟩))]) (fun _ _ _ _=>rel_two _ _) (fun w ⟨_,_,⟨t,p,hc⟩,_⟩=>(Tryz.strconv_Atoi_range s h1 hv _ w hc (.inr ⟨t,p,rfl⟩)).mono fun e w' ⟨N,he,_,_,hw⟩=>⟨N,he,hw⟩)
end Go.Q
