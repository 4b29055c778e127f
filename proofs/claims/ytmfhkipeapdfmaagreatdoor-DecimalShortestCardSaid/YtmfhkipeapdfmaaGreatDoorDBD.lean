import Derived.Test.YtmfhkipeapdfmaaGreatDoorDGE0
import Derived.Test.YtmfhkipeapdfmaaGreatDoorDBB
import Derived.Test.YtmfhkipeapdfmaaGreatDoorDBK
import Derived.Test.YtmfhkipeapdfmaaGreatDoorPC
import Derived.Shelf.Strings.BuilderK
import Derived.RangeFuncWrites
import Derived.RangeFuncFrom
namespace Go.Q
open Go Go.Proofs Go.RowKit Go.Shelf
set_option maxRecDepth 100000
attribute [local go_sem] Oper.semAt_some
structure Keep (w w':World):Prop where
  size:w.heap.size ≤ w'.heap.size
  same:∀ b,b < w.heap.size → w'.heap[b]? = w.heap[b]?
  ext:w'.os = w.os ∧ w'.output = w.output
theorem Keep.below {a b:World} (h:Below a.heap.size a b):Keep a b:=⟨h.size,h.block,h.os,h.output⟩
theorem builderF_keep {T e B b:Nat} {bs:List Value} {w w':World} (h:Lib.IsBuilderF T e B b bs w) (hk:∀ (x:Nat) (o:Obj),o.isCells = true → w.heap[x]? = some o → w'.heap[x]? = some o):Lib.IsBuilderF T e B b bs w':=by
  have key:∀ p,Lib.BuilderAtF T e B b p bs w → Lib.BuilderAtF T e B b p bs w':=by
    rintro p ⟨hB,v,hb,hown,hne⟩
    refine ⟨hB,v,hk _ _ rfl hb,⟨hown.1,?_⟩,hne⟩
    rcases hown.2 with h1 | ⟨g,cap,cur,fz,h1,h2,h3,h4⟩
    · exact .inl h1
    · exact .inr ⟨g,cap,cur,fz,h1,h2,hk _ _ rfl h3,h4⟩
  exact h.elim (fun h=>.inl (key _ h)) (fun h=>.inr (key _ h))
theorem builderF_below {T e B b:Nat} {bs:List Value} {w w':World} (h:Lib.IsBuilderF T e B b bs w) (hk:Below w.heap.size w w'):Lib.IsBuilderF T e B b bs w' :=
  builderF_keep h (fun x o _ hx=>(hk.block x (Array.getElem?_eq_some_iff.1 hx).1).trans hx)
def nineI (x:Int):BS:=Lib.repeatL [48] (9 - (Lib.itoa x).length) ++ Lib.itoa x
def outD (l:List (Nat × Int)):BS:=(l.map fun p=>nineI p.2).flatten
abbrev D9:={ x:Nat × Int // 0 ≤ x.2 ∧ x.2 < 1000000000 }
def d9 (l:List Int) (hz:∀ i:Nat,0 ≤ l[i]?.getD 0 ∧ l[i]?.getD 0 < 1000000000) (k:Nat):D9:=⟨(l.length - 1 - k,l[l.length - 1 - k]?.getD 0),hz _⟩
def outS (pre:List D9):BS:=(pre.map fun p=>nineI p.1.2).flatten
theorem outS_snoc (l:List D9) (x:D9):outS (l ++ [x]) = outS l ++ nineI x.1.2:=by unfold outS; simp
set_option maxHeartbeats 4000000 in
theorem digits_calls (l:List Int) (a:Option Addr) (cap:Nat) (w:World) (hk:Knows (fun b=>b < w.heap.size) w) (hl:l.length ≤ 100000) (hz:∀ i:Nat,0 ≤ l[i]?.getD 0 ∧ l[i]?.getD 0 < 1000000000)
    (hi9:∀ x:Int,0 ≤ x → x < 1000000000 → (Lib.itoa x).length ≤ 9)
    (ha:l.length = 0 ∨ ∃ b off,a = some ⟨b,off,none⟩ ∧ b < w.heap.size ∧ ∀ j,j < l.length → w.cell? ⟨b,off + j,none⟩ = some (.int .i64 (l[j]?.getD 0))) :
    Calls Tryz.prog 74 #[.slice a l.length cap] w fun e w'=>e = .returned (.string (B (Lib.trimLeftB (outS (Bk.upto (d9 l hz) l.length)) 48))) ∧ Keep w w':=by
  refine (callsIn_wide (n:=4)).1 ?_
  refine callsIn_of_wp_marks Tryz.func74 rfl trivial ?_ rfl
  simp only [Tryz.ntmps74,List.size_toArray,List.length_cons,List.length_nil,Nat.reduceAdd,Nat.reduceSub,Array.replicate_succ,Array.replicate_zero,List.push_toArray,List.append_toArray,List.nil_append,List.cons_append]
  gi_wp2_with (refine ⟨trivial,?_⟩; gi_at_call 121; refine (Bk.back_in Fence.wide _ trivial rfl _ _ _ _).mono ?_; rintro e w' ⟨rfl,rfl⟩)
  obtain ⟨n,hn⟩:∃ n,n = w.heap.size:=⟨_,rfl⟩
  have H0:Lib.IsBuilderF 143 5 n n (Lib.byteCells []) (w.alloc (.cells #[.pointer none,.slice none 0 0] 143)):=by rw [hn]; exact .of (Lib.fresh_isBuilder 143 5 w)
  have H1:=builderF_below H0 (((Below.refl _ _).alloc (Nat.le_refl _) (.cells #[.slice a l.length cap] 103)))
  have HB0:Below n w ((w.alloc (.cells #[.pointer none,.slice none 0 0] 143)).alloc (.cells #[.slice a l.length cap] 103)):=by
    rw [hn]; exact ((Below.refl _ w).alloc (Nat.le_refl _) _).alloc (by simp) _
  have hsz:((w.alloc (.cells #[.pointer none,.slice none 0 0] 143)).alloc (.cells #[.slice a l.length cap] 103)).heap.size = n + 2:=by rw [World.size_alloc,World.size_alloc,hn]
  have hbx:((w.alloc (.cells #[.pointer none,.slice none 0 0] 143)).alloc (.cells #[.slice a l.length cap] 103)).heap[n + 1]? = some (.cells #[.slice a l.length cap] 103 (0,0)):=by
    have:=World.alloc_heap_new (w.alloc (.cells #[.pointer none,.slice none 0 0] 143)) (.cells #[.slice a l.length cap] 103)
    rw [World.size_alloc,← hn] at this; exact this
  rw [← hn]
  obtain ⟨W0,hW0⟩:∃ W0,W0 = (w.alloc (.cells #[.pointer none,.slice none 0 0] 143)).alloc (.cells #[.slice a l.length cap] 103):=⟨_,rfl⟩
  rw [← hW0] at H1 HB0 hsz hbx ⊢
  have hbc:W0.cell? ⟨n + 1,0,none⟩ = some (.slice a l.length cap):=by unfold World.cell?; simp only [hbx]; rfl
  have haw:l.length = 0 ∨ ∃ b off,a = some ⟨b,off,none⟩ ∧ b < n ∧ ∀ j,j < l.length → W0.cell? ⟨b,off + j,none⟩ = some (.int .i64 (l[j]?.getD 0)):=by
    rcases ha with h | ⟨b,off,e,hb,hc⟩
    · exact .inl h
    · exact .inr ⟨b,off,e,by omega,fun j hj=>(HB0.cell (p:=⟨b,off + j,none⟩) (show b < n by omega)).trans (hc j hj)⟩
  have hkn:∀ {W:World},Below n w W → Knows (fun b=>b < W.heap.size) W:=fun {W} hB=>by
    refine hk.step (fun b hb=>?_) (fun b hb=>?_)
    · have:=hB.size; omega
    · exact hB.block b (by omega)
  have hlen:∀ pre:List D9,(outS pre).length ≤ 9 * pre.length:=fun pre=>by
    induction pre with
    | nil=>exact Nat.le_refl _
    | cons x r ih =>
      have h9:=hi9 x.1.2 x.2.1 x.2.2
      have e:outS (x :: r) = nineI x.1.2 ++ outS r:=by unfold outS; simp
      rw [e,List.length_append,List.length_cons]
      have:(nineI x.1.2).length = 9:=by
        unfold nineI
        rw [List.length_append,Lib.repeatL_length,List.length_singleton]; omega
      omega
  have Hn:Hid (n = w.heap.size):=hn
  clear H0 hW0 ha hn
  refine wpIn_rangeFunc_ownG (n:=4) rfl (by decide) (gf:=150) (lb:=#[.pointer (some ⟨n + 1,0,none⟩)]) rfl trivial (enters_of Tryz.func150 (by kernel_rfl) rfl)
    (Bk.back_stops Fence.wide (4 - 1) trivial rfl (by decide) (n + 1) n cap a l (d9 l hz) (fun x:D9=>#[Value.int .i64 (x.1.1:Int),Value.int .i64 x.1.2]) (fun k _=>rfl) (by omega) W0 (by omega) (by omega) hbc haw)
    (fun h k=>h.trans k)
    (fun W l' o o' hl' ho hc hw=>⟨belowK_b (w:=W0) (by omega) W l' o o' hl' ho hc hw,fun ob h1 _=>by
      have hne:n + 1 ≠ l':=by omega
      exact (World.putObj_heap_other hne).trans h1⟩)
    (Below.refl _ _) (fun _=>rfl)
    (fun pre W=>Lib.IsBuilderF 143 5 n n (Lib.byteCells (outS pre)) W ∧ Below n w W ∧ pre.length ≤ l.length ∧ W.heap[n + 1]? = some (.cells #[.slice a l.length cap] 103 (0,0)))
    (fun _ _ _=>False)
    ?own (fun _ _ _ _ _ hs _ _=>hs)
    ⟨H1,HB0,Nat.zero_le _,hbx⟩
    (fun x=>{ tmps:=#[.slice a l.length cap,undef,.string ⟨#[]⟩,.pointer (some ⟨n,0,none⟩),undef,.int .i64 x.1.2,undef,.slice a l.length cap,.func (.func 150) #[] #[.pointer (some ⟨n + 1,0,none⟩)],.int .i64 (x.1.1:Int),.int .i64 x.1.2,undef,undef,undef,undef,undef,undef,undef,undef,undef,undef,undef],defers:=[] }) ?assign ?body ?done ?stop
  case own =>
    intro pre W W' row hs hg hr
    refine ⟨builderF_keep hs.1 (fun x o hc ho=>(grownBy_keeps_cells hg (fun r e=>(hr r e).2) ho hc).trans ho),?_,hs.2.2.1,(grownBy_keeps_cells hg (fun r e=>(hr r e).2) hs.2.2.2 rfl).trans hs.2.2.2⟩
    exact hs.2.1.grown hg (Nat.le_trans (by have:=Hn.out; omega) hs.2.1.size) (fun k e=>by have:=(hr k e).1; omega)
  case assign =>
    intro l' x W K hK
    gi_wp2
    exact hK
  case body =>
    rintro l' pre x W ⟨HB,HL,hpl,HX⟩ hpre
    have hx0:=x.2.1
    have hx1:=x.2.2
    have hI9:=hi9 x.1.2 hx0 hx1
    have cI:Calls Tryz.prog 46 #[.int .i64 x.1.2] W fun e w'=>e = .returned (.string (B (Lib.itoa x.1.2))) ∧ Below W.heap.size W w' :=
      (Tryz.strconv_Itoa x.1.2 (by omega) (by omega) W (tab_of (hkn HL).2.2.1)).mono fun e w' ⟨he,k,os,hw⟩=>⟨he,hw ▸ Lib.below_grow _ _ (Nat.le_refl _) k os⟩
    gi_wp2_with (refine ⟨trivial,?_⟩; gi_at_call 46; refine (CallsIn.inRound l' (callsIn_wide.2 cI)).mono ?_; rintro e w1 ⟨rfl,b1⟩)
    clear cI
    have B1:=builderF_below HB b1
    have hsz1:(B (Lib.itoa x.1.2)).size = (Lib.itoa x.1.2).length:=rfl
    have hw:wrap64 (9 - ((B (Lib.itoa x.1.2)).size:Int)) = ((9 - (Lib.itoa x.1.2).length:Nat):Int):=by
      rw [hsz1]
      have:(9:Int) - ((Lib.itoa x.1.2).length:Int) = ((9 - (Lib.itoa x.1.2).length:Nat):Int):=by omega
      rw [this]; unfold wrap64; omega
    have cR:Calls Tryz.prog 45 #[.string ⟨#[48]⟩,.int .i64 ((9 - (Lib.itoa x.1.2).length:Nat):Int)] w1 fun e w'=>e = .returned (.string (B (Lib.repeatL [48] (9 - (Lib.itoa x.1.2).length)))) ∧ Below w1.heap.size w1 w' :=
      Tryz.strings_Repeat ⟨#[48]⟩ (9 - (Lib.itoa x.1.2).length) w1 (by omega) (by show 1 * (9 - (Lib.itoa x.1.2).length) ≤ _; omega)
    rw [hw]
    gi_wp2_with (refine ⟨trivial,?_⟩; gi_at_call 45; refine (CallsIn.inRound l' (callsIn_wide.2 cR)).mono ?_; rintro e w2 ⟨rfl,b2⟩)
    clear cR
    · rename_i h
      exfalso
      rw [size_B,Lib.repeatL_length,List.length_singleton] at h
      omega
    have B2:=builderF_below B1 b2
    have hcat:B (Lib.repeatL [48] (9 - (Lib.itoa x.1.2).length)) ++ B (Lib.itoa x.1.2) = B (nineI x.1.2):=B_appR _ _
    have hlp:=hlen pre
    have h9:(nineI x.1.2).length = 9:=by
      unfold nineI
      rw [List.length_append,Lib.repeatL_length,List.length_singleton]; omega
    have cW:Calls Tryz.prog 102 #[.pointer (some ⟨n,0,none⟩),.string (B (nineI x.1.2))] w2 fun e w'=>e = .returned (.tuple #[.int .i64 (B (nineI x.1.2)).size,.nilIface]) ∧ (Lib.BuilderAtF 143 5 n n (.pointer (some ⟨n,0,none⟩)) (Lib.byteCells (outS pre) ++ Lib.strCells (B (nineI x.1.2))) w' ∧ Below n w2 w' ∧ Lib.OthersKept 5 (some n) w2 w') :=
      Any.Builder_WriteString_k Tryz.lays166 Tryz.Builder_Extra_166 n n (Lib.byteCells (outS pre)) (B (nineI x.1.2)) w2 B2 (by rw [Lib.byteCells_length,size_B,h9]; omega) (by have:=HL.size; have:=b1.size; have:=b2.size; have:=Hn.out; omega)
    rw [hcat]
    gi_wp2_with (refine ⟨trivial,?_⟩; gi_at_call 102; refine (CallsIn.inRound l' (callsIn_wide.2 cW)).mono ?_; rintro e w3 ⟨rfl,b3,k3,o3⟩)
    clear cW
    have hWn:n + 2 ≤ W.heap.size:=by
      rcases Nat.lt_or_ge (n + 1) W.heap.size with h | h
      · exact h
      · rw [Array.getElem?_eq_none h] at HX; cases HX
    have s1:W.heap.size ≤ w1.heap.size:=b1.size
    have s2:w1.heap.size ≤ w2.heap.size:=b2.size
    have m1:n ≤ W.heap.size:=by omega
    have m2:n ≤ w1.heap.size:=by omega
    have keep2:∀ k (o:Obj),W.heap[k]? = some o → w2.heap[k]? = some o:=fun k o h=>by
      have hk1:=(Array.getElem?_eq_some_iff.1 h).1
      have h1:=(b1.block k hk1).trans h
      exact (b2.block k (Array.getElem?_eq_some_iff.1 h1).1).trans h1
    refine ⟨⟨Nat.le_trans b1.size (Nat.le_trans b2.size k3.size),fun k o hk' ho hc=>o3 k o (keep2 k o ho) (fun e=>by have:=Option.some.inj e; omega) (fun c fz e=>by rw [e] at hc; cases hc)⟩,⟨((b1.mono m1).trans (b2.mono m2)).trans k3,fun o h1 _=>?_⟩,?_,(HL.trans ((b1.mono m1).trans (b2.mono m2))).trans k3,by rw [List.length_append,List.length_singleton]; omega,?_⟩
    · have e:o = .cells #[.slice a l.length cap] 103 (0,0):=Option.some.inj (h1.symm.trans HX)
      exact o3 _ o (keep2 _ o h1) (fun q=>by have:=Option.some.inj q; omega) (fun c fz q=>by rw [e] at q; cases q)
    · rw [outS_snoc,Lib.byteCells_append]
      have e:Lib.strCells (B (nineI x.1.2)) = Lib.byteCells (nineI x.1.2):=by rw [Lib.strCells_eq]; rfl
      rw [e] at b3
      exact .inr b3
    · exact o3 _ _ (keep2 _ _ HX) (fun q=>by have:=Option.some.inj q; omega) (fun c fz q=>by cases q)
  case done =>
    rintro D ys W hD rfl ⟨HB,HL,hpl,HX⟩ hK
    have cS:Calls Tryz.prog 104 #[.pointer (some ⟨n,0,none⟩)] W fun e w'=>e = .returned (.string ⟨(outS (Bk.upto (d9 l hz) l.length)).toArray⟩) ∧ (Lib.IsBuilderF 143 5 n n (Lib.byteCells (outS (Bk.upto (d9 l hz) l.length))) w' ∧ Below n W w' ∧ Lib.OthersKept 5 (some n) W w') :=
      Any.Builder_String_any_k Tryz.lays169 Tryz.Builder_Extra_169 n n (outS (Bk.upto (d9 l hz) l.length)) W HB (by have:=HL.size; have:=Hn.out; omega)
    gi_wp2_with (refine ⟨trivial,?_⟩; gi_at_call 104; refine (callsIn_wide.2 cS).mono ?_; rintro e w1 ⟨rfl,b1,k1,o1⟩)
    clear cS
    have hK1:w1.heap[D]? = some (.deferred (some [])):=o1 D _ hK (fun e=>by have:=Option.some.inj e; omega) (fun c fz e=>by cases e)
    have cT:=Tryz.strings_TrimLeft_one (B (outS (Bk.upto (d9 l hz) l.length))) 48 (by decide) w1
    gi_wp2_with (refine ⟨trivial,?_⟩; gi_at_call 75; refine (callsIn_wide.2 cT).mono ?_; rintro e w2 ⟨rfl,rfl⟩)
    clear cT
    refine ⟨by simp,.inl ⟨_,_,rfl,run_takeDeferred hK1,?_⟩⟩
    refine ⟨_,results_tmp rfl _ _ _,rfl,?_⟩
    have hb:=(HL.trans k1).trans (belowK_b (w:=W0) (by omega) w2 D _ (.deferred none) hD hK1 rfl rfl)
    rw [Hn.out] at hb
    exact Keep.below hb
  case stop =>
    rintro D c pre W hD _ h _
    exact h.elim
end Go.Q
