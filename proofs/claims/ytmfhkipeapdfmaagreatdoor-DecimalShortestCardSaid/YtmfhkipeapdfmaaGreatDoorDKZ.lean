import Derived.Test.YtmfhkipeapdfmaaGreatDoorDKS
import Derived.Test.YtmfhkipeapdfmaaGreatDoorProg
import Derived.Shelf.Vars
import Derived.LaidSub
import Derived.Lib.LaidU8
import Derived.Lib.LaidTab
import Derived.FnData
namespace Go.Q
open Go Go.Proofs
set_option maxRecDepth 100000
theorem heap_of_cell {W:World} {b o:Nat} {v:Value} (h:W.cell? ⟨b,o,none⟩ = some v):b < W.heap.size:=by
  unfold World.cell? at h
  rcases Nat.lt_or_ge b W.heap.size with h1 | h1
  · exact h1
  · rw [Array.getElem?_eq_none h1] at h; simp at h
theorem tab_cells {W:World} {l:List (String × DataW Unit)} (h:laidMetH Tryz.prog l W) {n:String} {k:IntKind} {zs:List Int} (i:Nat) (hm0:l[i]? = some (n,Lib.tabData k zs)) {g t e N:Nat} (hg:Tryz.prog.globalNamed n = some g)
    (ht:(Tryz.prog.globals[g]?).map (·.type) = some t) (h1:Tryz.prog.underlying t = some (.array N e)) (h2:Tryz.prog.underlying e = some (.int k)) (h3:Tryz.prog.cellsOf e = 1) (h4:Tryz.prog.cellsOf t = N) :
    (match W.heap[g]? with | some (Obj.cells cs _ _)=>some cs | _=>none) = some (zs.map fun z=>Value.int k z).toArray:=by
  have hm:(n,Lib.tabData (H:=Unit) k zs) ∈ l.filter fun x=>x.2.handleName?.isNone:=List.mem_filter.2 ⟨List.mem_of_getElem? hm0,rfl⟩
  obtain ⟨g',t',cs,fuel,p,q1,q2,q3,q4⟩:=Go.Lib.laidMet.reads (laidMetH_iff.1 h).1 hm
  obtain rfl:g' = g:=Option.some.inj (q1.symm.trans hg)
  obtain rfl:t' = t:=Option.some.inj (q2.symm.trans ht)
  have e:=Lib.cells_of_tab (n:=N) h1 h2 h3 h4 q4
  unfold World.var? at q3
  rw [q1] at q3
  have e2:cs = (zs.map fun z=>Value.int k z).toArray:=by rw [← Array.toList_inj]; exact e
  rw [← e2]; exact q3
theorem db_at {W:World} (h:(match W.heap[0]? with | some (Obj.cells cs _ _)=>some cs | _=>none) = some ((Lib.deBruijn64tab.map fun n=>((n:Nat):Int)).map fun z=>Value.int .u8 z).toArray):dbAt W:=by
  intro j hj
  unfold World.cell?
  cases hb:W.heap[0]? with
  | none=>rw [hb] at h; cases h
  | some o =>
    rw [hb] at h
    cases o with
    | cells cs t ms =>
      simp only [Option.some.injEq] at h
      subst h
      simp only [List.map_map]
      rw [List.getElem?_toArray,List.getElem?_map,List.getElem?_eq_getElem hj,List.getD_eq_getElem?_getD,List.getElem?_eq_getElem hj]
      rfl
    | _=>cases h
theorem know_laid {W:World} (h:W.ShapedOpen Tryz.prog) (e2:(match W.heap[2]? with | some (Obj.cells cs _ _)=>some cs | _=>none) = some (Lib.pow10Tab.map fun z=>Value.int .u64 z).toArray)
    (e0:(match W.heap[0]? with | some (Obj.cells cs _ _)=>some cs | _=>none) = some ((Lib.deBruijn64tab.map fun n=>((n:Nat):Int)).map fun z=>Value.int .u8 z).toArray):Knows (fun b=>b < W.heap.size) W:=by
  obtain ⟨m,hm⟩:=cell_of_shapedOpen_int (P:=Tryz.prog) (w:=W) (g:=1) (t:=3) (zero:=#[.int .i64 0]) (k:=.i64) h (of_decide_eq_true (by kernel_rfl)) (by kernel_rfl) rfl (by kernel_rfl) (by kernel_rfl) (by kernel_rfl)
  have hd:=db_at e0
  refine ⟨fun b hb=>?_,⟨m,hm⟩,e2,hd⟩
  rcases hb with rfl | rfl | rfl
  · exact heap_of_cell (hd 0 (by decide))
  · exact heap_of_cell hm
  · rcases Nat.lt_or_ge 2 W.heap.size with h1 | h1
    · exact h1
    · rw [Array.getElem?_eq_none h1] at e2; cases e2
end Go.Q
