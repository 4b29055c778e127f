import Derived.Test.YtmfhkipeapdfmaaGreatDoorDG4
import Derived.Test.YtmfhkipeapdfmaaGreatDoorFX
import Derived.Test.YtmfhkipeapdfmaaGreatDoorFY
import Derived.Test.YtmfhkipeapdfmaaGreatDoorProg
namespace Go.Q
open Go Go.Proofs
set_option maxRecDepth 10000
set_option maxHeartbeats 2000000
noncomputable def Dec.Power.j1 (l:Int) (m:Int) (b:ByteArray) (a:ByteArray) (c:ByteArray):Option (ByteArray × Int) :=
 Option.bind (Dec.minus m) fun d =>
 chk (((d.size + (⟨#[48,46]⟩:ByteArray).size:Nat):Int) ≤ 9223372036854775807) <|
 letk (d ++ (⟨#[48,46]⟩:ByteArray)) fun e =>
 chk (((e.size + b.size:Nat):Int) ≤ 9223372036854775807) <|
 letk (e ++ b) fun f =>
 chk (((f.size + (⟨#[69]⟩:ByteArray).size:Nat):Int) ≤ 9223372036854775807) <|
 letk (f ++ (⟨#[69]⟩:ByteArray)) fun g =>
 chk (((g.size + c.size:Nat):Int) ≤ 9223372036854775807) <|
 letk (g ++ c) fun h =>
 letk ((a.size:Int)) fun n =>
 letk (IntKind.i64.wrap (l - n)) fun i =>
 letk (if i > 0 then i else 0) fun o =>
 Option.bind (Strs.Repeat ⟨#[48]⟩ o) fun j =>
 chk (((h.size + j.size:Nat):Int) ≤ 9223372036854775807) <|
 letk (h ++ j) fun k =>
 chk (((k.size + a.size:Nat):Int) ≤ 9223372036854775807) <|
 letk (k ++ a) fun p =>
 some (p,0)
noncomputable def Dec.Power.j0 (c:Int) (k:Int) (d:Int) (e:Int) (f:Int):Option (ByteArray × Int) :=
 Option.bind (Dec.special c d) fun (l,m) =>
 bif m then
 some (l,0)
 else
 Option.bind (Dec.parts c d) fun (b,g,n) =>
 Option.bind (Dec.away k b g e) fun o =>
 Option.bind (Dec.to g n e o) fun (h,a) =>
 letk (IntKind.i64.wrap (0 - a)) fun i =>
 letk (if i > a then i else a) fun p =>
 Option.bind (Strconv.Itoa p) fun j =>
 letk (decide (a < (0:Int))) fun q =>
 bif q then
 Dec.Power.j1 f b h j (⟨#[45]⟩)
 else
 Dec.Power.j1 f b h j (⟨#[43]⟩)
noncomputable def Dec.Power (a:Int) (d:Int) (e:Int) (b:Int) (c:Int):Option (ByteArray × Int) :=
 Option.bind (Dec.isKind a d) fun f =>
 letk (!f) fun g =>
 bif g then
 some (⟨#[]⟩,2)
 else
 Option.bind (Flt.Valid a e) fun h =>
 letk (!h) fun i =>
 bif i then
 some (⟨#[]⟩,2)
 else
 letk (decide (b < (1:Int))) fun j =>
 bif j then
 some (⟨#[]⟩,2)
 else
 letk (decide (b > (40:Int))) fun k =>
 bif k then
 some (⟨#[]⟩,2)
 else
 letk (decide (c < (2:Int))) fun l =>
 bif l then
 some (⟨#[]⟩,2)
 else
 letk (decide (c > (4:Int))) fun m =>
 bif m then
 some (⟨#[]⟩,2)
 else
 Dec.Power.j0 a d e b c
theorem Dec.Power_ok {e:Int} {f:Int} {g:Int} {h:Int} {a:Int} {r:ByteArray × Int} (y:Dec.Power e f g h a = some r):Gives Tryz.prog 27 [.lit (.int .i64 e),.lit (.int .i64 f),.lit (.int .i64 g),.lit (.int .i64 h),.lit (.int .i64 a)] (.tup [.lit (.string r.1),.lit (.int .i64 r.2)]):=by
 unfold Dec.Power at y
 refine W' [(0,3),(0,12)] Tryz.func27 ?_
 refine CutN.of (fun s=>Dec.Power.j0 e f g h a = some r ∧ s = ⟨96,[(0,.lit (.int .i64 e)),(1,.lit (.int .i64 f)),(2,.lit (.int .i64 g)),(3,.lit (.int .i64 h)),(4,.lit (.int .i64 a))],[]⟩) ?_ ?_
 refine Gate.go (A' y Dec.isKind_ok fun _ h1=>C' h1 (fun j=>Gate.go (A' j Flt.Valid_ok fun _ h4=>C' h4 (fun k=>C' k (fun l=>C' l (fun m=>C' m (fun n=>C' n (fun o=>?_) fun o=>R' (E:=E19') o) fun n=>R' (E:=E19') n) fun m=>R' (E:=E19') m) fun l=>R' (E:=E19') l) fun k=>R' (E:=E19') k)) fun j=>R' (E:=E19') j)
 exact B' [] ⟨o,rfl⟩
 rintro s ⟨b,rfl⟩
 unfold Dec.Power.j0 at b
 obtain ⟨⟨_,ac⟩,ad,i⟩:=bind_elim b
 refine Gate.go (Z' (Dec.special_ok ad) ?_)
 rcases ac with _ | _
 have c:=bif_f i
 obtain ⟨⟨z,_,_⟩,ae,p⟩:=bind_elim c
 refine Gate.go (Z' (Dec.parts_ok ae) (Gate.go (A' p Dec.away_ok fun _ q=>?_)))
 obtain ⟨⟨aa,_⟩,af,t⟩:=bind_elim q
 refine Gate.go (Z' (Dec.to_ok af) (N' t fun _ u=>N' u fun _ v=>Gate.go (A' v Strconv.Itoa_ok fun ab w=>CutN.of (fun s=>∃ x,Dec.Power.j1 a z aa ab x = some r ∧ s = ⟨96,[(4,.lit (.int .i64 a)),(14,.lit (.int .i64 z)),(15,.lit (.string aa)),(17,.lit (.string ab)),(18,.lit (.string x))],[]⟩) ?_ ?_)))
 refine C' w (fun d=>?_) fun d=>?_
 exact B' [] ⟨_,d,rfl⟩
 exact B' [] ⟨_,d,rfl⟩
 rintro s ⟨x,b,rfl⟩
 unfold Dec.Power.j1 at b
 exact Gate.go (A' b Dec.minus_ok fun _ i=>S' i fun c=>N' c fun _ p=>S' p fun q=>N' q fun _ t=>S' t fun u=>N' u fun _ v=>S' v fun w=>N' w fun _ ag=>N' ag fun _ d=>N' d fun _ ah=>N' ah fun _ ai=>Gate.go (A' ai Strs.Repeat_ok fun _ aj=>S' aj fun ak=>N' ak fun _ al=>S' al fun am=>N' am fun _ an=>R' (E:=E19') an))
 have c:=bif_t i
 exact R' (E:=E19') c
end Go.Q
