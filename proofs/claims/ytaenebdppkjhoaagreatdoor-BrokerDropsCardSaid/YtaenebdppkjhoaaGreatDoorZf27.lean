/- Lemmas. -/
import Derived.Test.YtaenebdppkjhoaaGreatDoorZf23
import Derived.Test.YtaenebdppkjhoaaGreatDoorZf25
namespace Go.Proofs.YtaenebdppkjhoaaGreatDoor
set_option maxRecDepth 20000
set_option maxHeartbeats 40000000
section
open Go.RowKit
def O8 (L:List PRu) (i:Int) (v:Nat):Bool:=(L.take v).any fun r=>decide (r.kind=4)&&decide (r.at_=i)
def A7 (L:List PRu):Nat:=(L.filter fun r=>decide (r.kind=0)).length
def a0L (L:List PRu) (tenant:Int) (who:ByteArray):Option Int:=D1 (L.map fun p=>p.lies none 0) tenant who
def a6v (L:List PRu) (p:PRu):Bool:=
 if p.at_<0 then false else match L[p.at_.toNat]? with
 |none=>false
 |some o=> !(decide (o.kind=4))&& !(decide (o.kind=0))&& !O8 L p.at_ L.length
def a1i (L:List PRu) (p:PRu):Int:=
 if p.rightB=false then 1 else if L.length=40 then 6 else
 if p.kind=4 then (if a6v L p then 0 else 3) else
 if p.kind=0 then (if (a0L L p.tenant p.who).isSome then 4 else if A7 L=12 then 6 else 0) else
 if (a0L L p.tenant p.who).isSome then 0 else 3
def PRu.kept (p:PRu):PRu:=if j4 p.sc p.cs then {p with cs:=j1 p.cs} else p
def O1 (L:List PRu) (p:PRu):List PRu:=if a1i L p=0 then L++[p.kept] else L
def atP (L:List PRu) (v:Nat):List PRu:=(L.take v).zipIdx.filterMap fun q=>if decide (q.1.kind=4)||O8 L q.2 v then none else some q.1
theorem a6w {L:List PRu} (h:L.length<=40) (p:PRu):(O1 L p).length<=40:=by
 unfold O1;split
 ·rename_i h1
  have h2:L.length≠40:=fun e=>by
   unfold a1i at h1;by_cases hr:p.rightB=false
   ·rw [if_pos hr] at h1;exact absurd h1 (by decide)
   rw [if_neg hr,if_pos e] at h1;exact absurd h1 (by decide)
  rw [zz4,List.length_singleton];omega
 exact h
def b4U (fs:ByteArray) (f:List Cnd) (gs:ByteArray) (g:List Cnd):Bool:=g.any Cnd.voidB||(f.all (fun c=>g.any fun d=>a1Q d c)&&q7 gs fs)
end
end Go.Proofs.YtaenebdppkjhoaaGreatDoor
