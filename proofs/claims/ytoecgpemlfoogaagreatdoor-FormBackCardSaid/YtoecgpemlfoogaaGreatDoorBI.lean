import Derived.Test.YtoecgpemlfoogaaGreatDoorNGE
import Derived.Shelf.Strings.Builder1
import Derived.Lib.AppendIntMem
namespace Go.Q
open Go Go.Proofs Go.RowKit
set_option maxRecDepth 10000
theorem tab_of {w : World} (h : tabAt1 w) : Lib.TabIs Tryz.prog w "internal/strconv.uint64pow10" .u64 Lib.pow10Tab := by
  unfold Lib.TabIs World.var?
  rw [show Tryz.prog.globalNamed "internal/strconv.uint64pow10" = some 1 by kernel_rfl]
  exact h
noncomputable def Strconv.Itoa (n:Int):Option ByteArray:=chk (-9223372036854775808 ≤ n ∧ n ≤ 9223372036854775807) (some (B (Lib.itoa n)))
theorem Strconv.Itoa_ok {n:Int} {r:ByteArray} (h:Strconv.Itoa n = some r):Gives Tryz.prog 40 [.lit (.int .i64 n)] (.lit (.string r)):=by
  obtain ⟨h1,h⟩:=chk_elim h
  cases h
  exact Gives.of_callsK Tryz.func40 rfl (by kernel_rfl) (vs:=[.int .i64 n]) (fun _ _ _=>.lit _ _) (fun w hk=>(Tryz.strconv_Itoa n h1.1 h1.2 w (tab_of hk.2.2.2)).mono fun e w' ⟨he,k,os,hw⟩=>⟨he,hw ▸ Lib.below_grow _ _ (Nat.le_refl _) k os⟩)
structure Keep (w w':World):Prop where
  size:w.heap.size ≤ w'.heap.size
  same:∀ b,b < w.heap.size → w'.heap[b]? = w.heap[b]?
  ext:w'.os = w.os ∧ w'.output = w.output
structure KeepB (B:Nat) (w w':World):Prop where
  size:w.heap.size ≤ w'.heap.size
  same:∀ b,b < B → w'.heap[b]? = w.heap[b]?
  ext:w'.os = w.os ∧ w'.output = w.output
theorem KeepB.trans {B:Nat} {a b c:World} (h:KeepB B a b) (k:KeepB B b c):KeepB B a c:=⟨Nat.le_trans h.size k.size,fun x hx=>(k.same x hx).trans (h.same x hx),k.ext.1.trans h.ext.1,k.ext.2.trans h.ext.2⟩
theorem KeepB.below {B:Nat} {a b:World} (h:Below B a b):KeepB B a b:=⟨h.size,h.block,h.os,h.output⟩
theorem Keep.b {B:Nat} {a b:World} (h:Keep a b) (hB:B ≤ a.heap.size):KeepB B a b:=⟨h.size,fun x hx=>h.same x (Nat.lt_of_lt_of_le hx hB),h.ext⟩
theorem KeepB.cell {B:Nat} {w w':World} (h:KeepB B w w') {b off:Nat} (hb:b < B):w'.cell? ⟨b,off,none⟩ = w.cell? ⟨b,off,none⟩:=cell_same (h.same b hb)
theorem calls_of_gives [KN:Know] {P:Program} {g:FuncId} (hen:∀ args w,(callFunc g args).run P w = .ok (.enter g args) w) {args:List AV} {u:Value} (h:Gives P g args (.lit u)) {w:World} (hk:Knows (fun b=>b < w.heap.size) w)
    {vals:Array Value} (ha:ArgsRel (fun b=>b < w.heap.size) w [] args vals):Calls P g vals w fun e w'=>e = .returned u ∧ Keep w w':=by
  have key:∀ (e:Ending) (w':World),(∃ v r h' I' μ',e = .returned v ∧ (r = .lit u ∧ h' = ([]:List AObj)) ∧ RelH I' μ' h' w' ∧ RelV I' w' μ' r v ∧ Step (fun b=>b < w.heap.size) [] w I' μ' w' ∧ Pre ([]:List AObj).length [] μ') → e = .returned u ∧ Keep w w':=by
    rintro e w' ⟨v,r,h',I',μ',rfl,⟨rfl,rfl⟩,_,hv,S,_⟩
    rw [hv.lit_eq]
    exact ⟨rfl,S.grow,fun b hb=>S.same b hb (fun ⟨o,l,h,_⟩=>by simp [MM.loc] at h),S.ext⟩
  rcases h (fun b=>b < w.heap.size) [] w vals (relH_nil (fun _ h=>h) hk) ha with ⟨_,h2⟩ | ⟨v,w',h1,_⟩
  · exact h2.mono key
  · rw [hen] at h1; cases h1
theorem builder_keep {T e B b:Nat} {bs:List Value} {w w':World} (h:Lib.IsBuilder T e B b bs w) (hk:∀ x,x < w.heap.size → w'.heap[x]? = w.heap[x]?):Lib.IsBuilder T e B b bs w':=by
  have key:∀ p,Lib.BuilderAt T e B b p bs w → Lib.BuilderAt T e B b p bs w':=by
    rintro p ⟨hB,v,hb,hown,hne⟩
    have lt:∀ {x:Nat} {o:Obj},w.heap[x]? = some o → x < w.heap.size:=fun {x o} hx=>by
      rcases Nat.lt_or_ge x w.heap.size with h1 | h1
      · exact h1
      · rw [Array.getElem?_eq_none h1] at hx; cases hx
    refine ⟨hB,v,(hk b (lt hb)).trans hb,⟨hown.1,?_⟩,hne⟩
    rcases hown.2 with h1 | ⟨g,cap,cur,h1,h2,h3,h4⟩
    · exact .inl h1
    · exact .inr ⟨g,cap,cur,h1,h2,(hk g (lt h3)).trans h3,h4⟩
  exact h.elim (fun h=>.inl (key _ h)) (fun h=>.inr (key _ h))
end Go.Q
