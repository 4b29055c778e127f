import Derived.Test.YtoecgpemlfoogaaGreatDoorBI
import Derived.Test.YtoecgpemlfoogaaGreatDoorBB
import Derived.WalkKit
import Derived.BigCall
namespace Go.Q
open Go Go.Proofs Go.RowKit
set_option maxRecDepth 100000
def writeL (one:api.Line → Option ByteArray):List api.Line → BS → Option (ByteArray × Int)
  | [],out=>some (B out,0)
  | x :: r,out=>(one x).bind fun s=>if out.length + s.size ≤ 140737488355328 then (if 8000 < out.length + s.size then some (⟨#[]⟩,4) else writeL one r (out ++ L s)) else none
def lineVal (x:api.Line):Value:=.agg #[.int .i64 x.Label,.string x.Text,.int .i64 x.At]
set_option maxHeartbeats 4000000 in
theorem write_calls (fg:Nat) (hen:∀ args w,(callFunc fg args).run Tryz.prog w = .ok (.enter fg args) w) (one:api.Line → Option ByteArray)
    (hone:∀ x r w,Knows (fun b=>b < w.heap.size) w → one x = some r → Calls Tryz.prog fg #[lineVal x] w fun e w'=>e = .returned (.string r) ∧ Keep w w')
    (l:List api.Line) (v:Bool) (w:World) (hk:Knows (fun b=>b < w.heap.size) w) (a:Option Addr) (cap:Nat) (hcap:l.length ≤ cap) (hl:l.length < 4611686018427387904)
    (hc:∀ i x,l[i]? = some x → ∃ b off,a = some ⟨b,off,none⟩ ∧ b < w.heap.size ∧ w.cell? ⟨b,off + i * 3,none⟩ = some (.int .i64 x.Label) ∧ w.cell? ⟨b,off + i * 3 + 1,none⟩ = some (.string x.Text) ∧ w.cell? ⟨b,off + i * 3 + 2,none⟩ = some (.int .i64 x.At))
    (hV:Calls Tryz.prog 17 #[.slice a l.length cap] w fun e w'=>e = .returned (.bool v) ∧ Keep w w') (r:ByteArray × Int) (hr:if v = true then writeL one l [] = some r else r = (⟨#[]⟩,2)) :
    Calls Tryz.prog 38 #[.slice a l.length cap,.func (.func fg) #[] #[]] w fun e w'=>e = .returned (.tuple #[.string r.1,.int .i64 r.2]) ∧ Keep w w':=by
  go_enter Tryz.func38,Tryz.ntmps38
  go_wp2_with (go_at_call 17; refine hV.mono ?_)
  rintro e w1 ⟨rfl,k1⟩
  cases v with
  | false =>
    rw [if_neg (by decide)] at hr
    subst hr
    go_wp2
    go_ret2
    exact ⟨rfl,k1⟩
  | true =>
    rw [if_pos rfl] at hr
    go_wp2
    have hB1:w.heap.size ≤ w1.heap.size:=k1.size
    obtain ⟨n,hn⟩:∃ n,n = w1.heap.size:=⟨_,rfl⟩
    have H0:Hid (Lib.IsBuilder 75 5 n n [] (w1.alloc (.cells #[.pointer none,.slice none 0 0] 75))):=by rw [hn]; exact Lib.fresh_isBuilder 75 5 w1
    have K0:Hid (KeepB n w1 (w1.alloc (.cells #[.pointer none,.slice none 0 0] 75))):=by rw [hn]; exact KeepB.below ((Below.refl _ _).alloc (Nat.le_refl _) _)
    rw [← hn]
    have hwn:w.heap.size ≤ n:=by omega
    have Hn:Hid (n = w1.heap.size):=hn
    have hfin:∀ {w':World},KeepB n w1 w' → Keep w w':=fun {w'} q=>⟨Nat.le_trans k1.size q.size,fun b hb=>(q.same b (Nat.lt_of_lt_of_le hb hwn)).trans (k1.same b hb),q.ext.1.trans k1.ext.1,q.ext.2.trans k1.ext.2⟩
    clear hn
    go_loopw [14] (fun i wr=>∃ k out,k ≤ l.length ∧ i = .int .i64 k ∧ Hid (Lib.IsBuilder 75 5 n n (Lib.byteCells out) wr) ∧ Hid (KeepB n w1 wr) ∧ Hid (writeL one (l.drop k) out = some r)) (fun i _=>l.length - (intOf i).toNat)
    case atStart=>exact ⟨0,[],Nat.zero_le _,rfl,H0,K0,hr⟩
    case round =>
      obtain ⟨k,out,hkl,rfl,HB,HK,HR⟩:=hrel
      by_cases hkn:k < l.length
      · have hx:l[k]? = some l[k]:=List.getElem?_eq_getElem hkn
        obtain ⟨x,hxx⟩:∃ x,x = l[k]:=⟨_,rfl⟩
        rw [← hxx] at hx
        obtain ⟨b,off,rfl,hb,c0,c1,c2⟩:=hc k x hx
        have hbn:b < n:=by omega
        have d0:=(HK.out.cell (off:=off + k * 3) hbn).trans ((KeepB.cell (k1.b (Nat.le_refl _)) hb).trans c0)
        have d1:=(HK.out.cell (off:=off + k * 3 + 1) hbn).trans ((KeepB.cell (k1.b (Nat.le_refl _)) hb).trans c1)
        have d2:=(HK.out.cell (off:=off + k * 3 + 2) hbn).trans ((KeepB.cell (k1.b (Nat.le_refl _)) hb).trans c2)
        clear hc c0 c1 c2
        have hdrop:l.drop k = x :: l.drop (k + 1):=by rw [hxx]; exact List.drop_eq_getElem_cons hkn
        have hR:=HR.out
        rw [hdrop] at hR
        unfold writeL at hR
        obtain ⟨s,hs,hR⟩:=Option.bind_eq_some_iff.1 hR
        have hnk:n ≤ wr.heap.size:=by have:=HK.out.size; have:=Hn.out; omega
        have hkw:∀ o:Obj,Knows (fun b=>b < (wr.alloc o).heap.size) (wr.alloc o):=fun o=>by
          refine hk.step (fun b hb=>?_) (fun b hb=>?_)
          · have:(wr.alloc o).heap.size = wr.heap.size + 1:=by show (wr.heap.push o).size = _; exact Array.size_push ..
            omega
          · rw [Below.heap_alloc _ _ _ (by omega),HK.out.same b (by omega),k1.same b hb]
        have HONE:=hone x s
        have HS:Hid (one x = some s):=hs
        split at hR
        · rename_i hlen
          have HR2:Hid ((if 8000 < out.length + s.size then some (⟨#[]⟩,4) else writeL one (l.drop (k + 1)) (out ++ L s)) = some r):=hR
          clear hR hs hdrop hone
          clear hxx hx
          go_wp2
          have hsz2:∀ o:Obj,(wr.alloc o).heap.size = wr.heap.size + 1:=fun o=>by show (wr.heap.push o).size = _; exact Array.size_push ..
          have B2:∀ o:Obj,Hid (Lib.IsBuilder 75 5 n n (Lib.byteCells out) (wr.alloc o)):=fun o=>builder_keep HB.out (fun b hb=>Below.heap_alloc _ _ _ hb)
          have KB2:∀ o:Obj,Hid (KeepB n w1 (wr.alloc o)):=fun o=>HK.out.trans (KeepB.below ((Below.refl n wr).alloc hnk o))
          generalize hw2:wr.alloc (Obj.cells #[Value.int IntKind.i64 x.Label,Value.string x.Text,Value.int IntKind.i64 x.At] 33) = w2
          have hn2:n ≤ w2.heap.size:=by rw [← hw2,hsz2]; omega
          have kk2:Knows (fun b=>b < w2.heap.size) w2:=by rw [← hw2]; exact hkw _
          have B2':=B2 (Obj.cells #[Value.int IntKind.i64 x.Label,Value.string x.Text,Value.int IntKind.i64 x.At] 33)
          have KB2':=KB2 (Obj.cells #[Value.int IntKind.i64 x.Label,Value.string x.Text,Value.int IntKind.i64 x.At] 33)
          rw [hw2] at B2' KB2'
          clear B2 KB2 hkw hw2 hsz2
          refine (HONE _ kk2 HS.out).mono ?_
          rintro e w3 ⟨rfl,k3⟩
          have hn3:n ≤ w3.heap.size:=Nat.le_trans hn2 k3.size
          have B3:Hid (Lib.IsBuilder 75 5 n n (Lib.byteCells out) w3):=builder_keep B2'.out k3.same
          have KB3:Hid (KeepB n w1 w3):=KB2'.out.trans (k3.b hn2)
          clear B2' KB2' k3
          have CW:=Tryz.Builder_WriteString n n (Lib.byteCells out) s w3 B3.out (by rw [Lib.byteCells_length]; exact hlen) hn3
          go_wp2_with fail
          refine CW.mono ?_
          rintro e w4 ⟨rfl,b4,k4⟩
          have hcat:Lib.byteCells out ++ Lib.strCells s = Lib.byteCells (out ++ L s):=by rw [Lib.strCells_eq,← Lib.byteCells_append]; rfl
          rw [hcat] at b4
          have B4:Hid (Lib.IsBuilder 75 5 n n (Lib.byteCells (out ++ L s)) w4):=.inr b4
          have KB4:Hid (KeepB n w1 w4):=KB3.out.trans (KeepB.below k4)
          clear b4 k4 hcat
          have CL:=Tryz.Builder_Len n n (Lib.byteCells (out ++ L s)) w4 B4.out
          go_wp2_with fail
          refine CL.mono ?_
          rintro e w5 ⟨rfl,rfl⟩
          have hll:((Lib.byteCells (out ++ L s)).length:Int) = ((out.length + s.size:Nat):Int):=by rw [Lib.byteCells_length,List.length_append,L_len]
          rw [hll]
          by_cases h8:8000 < out.length + s.size
          · have hr4:=HR2.out
            rw [if_pos h8] at hr4
            have hr5:=Option.some.inj hr4
            subst hr5
            go_wp2
            go_ret2
            exact ⟨rfl,hfin KB4.out⟩
          · have hr4:=HR2.out
            rw [if_neg h8] at hr4
            have HR4:Hid (writeL one (l.drop (k + 1)) (out ++ L s) = some r):=hr4
            clear hr4
            go_wp2
            exact ⟨⟨k + 1,out ++ L s,by omega,by go_num,B4,KB4,HR4⟩,by simp [intOf]; omega⟩
        · cases hR
      · have hke:k = l.length:=by omega
        subst hke
        have hR:=HR.out
        rw [List.drop_length] at hR
        have hr5:=Option.some.inj hR
        subst hr5
        have hnk:n ≤ wr.heap.size:=by have:=HK.out.size; have:=Hn.out; omega
        have CS:=Tryz.Builder_String_any n n out wr HB.out hnk
        go_wp2_with fail
        refine CS.mono ?_
        rintro e w5 ⟨rfl,b5⟩
        have KB5:Hid (KeepB n w1 w5):=HK.out.trans (KeepB.below b5)
        clear b5
        go_wp2
        go_ret2
        exact ⟨rfl,hfin KB5.out⟩
end Go.Q
