import Derived.Test.YtognkiddigibnaaGreatDoorLKS
import Derived.Test.YtognkiddigibnaaGreatDoorProg
import Derived.Shelf.Vars
import Derived.LaidSub
import Derived.Lib.LaidU8
import Derived.FnData
namespace Go.Q
open Go Go.Proofs
set_option maxRecDepth 100000
theorem trod_iface_cell {H:Type} {enc:TypeId × Value → H} {P:Program} {w:World} {sp:Nat → Bool} {fuel:Nat} {t:TypeId} {cs:List Value} {name:String} {d:DataW H} {p:List MemPlace} {ms:Array (String × TypeId)} (ht:P.underlying t = some (.interface ms))
    (h:DataW.trod enc P w 0 sp false fuel t cs = some (.iface name d,p)):∃ u v,cs = [.iface u v]:=by
  cases fuel with
  | zero=>simp [DataW.trod] at h
  | succ n =>
    unfold DataW.trod at h
    rw [ht] at h
    match cs,h with
    | [.iface u v],_=>exact ⟨u,v,rfl⟩
    | [.nilIface],h=>simp at h
theorem heap_of_cell {W:World} {b:Nat} {v:Value} (h:W.cell? ⟨b,0,none⟩ = some v):b < W.heap.size:=by
  unfold World.cell? at h
  rcases Nat.lt_or_ge b W.heap.size with h1 | h1
  · exact h1
  · rw [Array.getElem?_eq_none h1] at h; simp at h
noncomputable def isIfaceVar (g:Nat):Bool:=match ((Tryz.prog.globals[g]?).map (·.type)).bind Tryz.prog.underlying with | some (.interface _)=>true | _=>false
theorem err_cell {W:World} {l:List (String × DataW Unit)} (h:laidMetH Tryz.prog l W) {n:String} {name:String} {d:DataW Unit} {g:Nat} (i:Nat) (hm0:l[i]? = some (n,DataW.iface name d)) (hn:(DataW.iface name d).handleName?.isNone = true)
    (hg:Tryz.prog.globalNamed n = some g) (hc:isIfaceVar g = true):∃ u v,W.cell? ⟨g,0,none⟩ = some (.iface u v):=by
  have hm:(n,DataW.iface name d) ∈ l.filter fun x=>x.2.handleName?.isNone:=List.mem_filter.2 ⟨List.mem_of_getElem? hm0,hn⟩
  obtain ⟨g',t',cs,fuel,p,h1,h2,h3,h4⟩:=Go.Lib.laidMet.reads (laidMetH_iff.1 h).1 hm
  obtain rfl:g' = g:=Option.some.inj (h1.symm.trans hg)
  unfold isIfaceVar at hc
  rw [h2] at hc
  obtain ⟨ms,hu⟩:∃ ms,Tryz.prog.underlying t' = some (.interface ms):=by
    simp only [Option.bind_some] at hc
    split at hc
    · exact ⟨_,by assumption⟩
    · cases hc
  obtain ⟨u,v,e⟩:=trod_iface_cell hu h4
  refine ⟨u,v,?_⟩
  rw [World.var?_cell h1 h3]
  have:cs = #[.iface u v]:=by rw [← Array.toList_inj]; exact e
  rw [this]; rfl
theorem know_laid {W:World} (h:W.ShapedOpen Tryz.prog) (e4:∃ u v,W.cell? ⟨1,0,none⟩ = some (.iface u v)) (e5:∃ u v,W.cell? ⟨2,0,none⟩ = some (.iface u v)):Knows (fun b=>b < W.heap.size) W:=by
  obtain ⟨m,hm⟩:=cell_of_shapedOpen_int (P:=Tryz.prog) (w:=W) (g:=0) (t:=3) (zero:=#[.int .i64 0]) (k:=.i64) h (of_decide_eq_true (by kernel_rfl)) (by kernel_rfl) rfl (by kernel_rfl) (by kernel_rfl) (by kernel_rfl)
  refine ⟨fun b hb=>?_,⟨m,hm⟩,e4,e5⟩
  obtain ⟨_,_,h4⟩:=e4
  obtain ⟨_,_,h5⟩:=e5
  rcases hb with rfl | rfl | rfl
  · exact heap_of_cell hm
  · exact heap_of_cell h4
  · exact heap_of_cell h5
end Go.Q
