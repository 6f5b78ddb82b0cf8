/- Lemmas. -/
import Derived.Test.YtaenebdppkjhoaaGreatDoorZg23
import Derived.Test.YtaenebdppkjhoaaGreatDoorZg25
namespace Go.Proofs.YtaenebdppkjhoaaGreatDoor
set_option maxRecDepth 20000
set_option maxHeartbeats 40000000
section
open Go.RowKit
def Q9 (L:List PRu) (i:Int) (v:Nat):Bool:=(L.take v).any fun r=>decide (r.kind=4)&&decide (r.at_=i)
def C4 (L:List PRu):Nat:=(L.filter fun r=>decide (r.kind=0)).length
def a0y (L:List PRu) (tenant:Int) (who:ByteArray):Option Int:=A5 (L.map fun p=>p.lies none 0) tenant who
def a61 (L:List PRu) (p:PRu):Bool:=
 if p.at_<0 then false else match L[p.at_.toNat]? with
 |none=>false
 |some o=> !(decide (o.kind=4))&& !(decide (o.kind=0))&& !Q9 L p.at_ L.length
def a1G (L:List PRu) (p:PRu):Int:=
 if p.rightB=false then 1 else if L.length=40 then 6 else
 if p.kind=4 then (if a61 L p then 0 else 3) else
 if p.kind=0 then (if (a0y L p.tenant p.who).isSome then 4 else if C4 L=12 then 6 else 0) else
 if (a0y L p.tenant p.who).isSome then 0 else 3
def PRu.kept (p:PRu):PRu:=if j5 p.sc p.cs then {p with cs:=j2 p.cs} else p
def P8 (L:List PRu) (p:PRu):List PRu:=if a1G L p=0 then L++[p.kept] else L
def atP (L:List PRu) (v:Nat):List PRu:=(L.take v).zipIdx.filterMap fun q=>if decide (q.1.kind=4)||Q9 L q.2 v then none else some q.1
theorem a62 {L:List PRu} (h:L.length<=40) (p:PRu):(P8 L p).length<=40:=by
 unfold P8;split
 ·rename_i h1
  have h2:L.length≠40:=fun e=>by
   unfold a1G at h1;by_cases hr:p.rightB=false
   ·rw [if_pos hr] at h1;exact absurd h1 (by decide)
   rw [if_neg hr,if_pos e] at h1;exact absurd h1 (by decide)
  rw [zz4,List.length_singleton];omega
 exact h
def b5D (fs:ByteArray) (f:List Cnd) (gs:ByteArray) (g:List Cnd):Bool:=g.any Cnd.voidB||(f.all (fun c=>g.any fun d=>a2g d c)&&s6 gs fs)
end
end Go.Proofs.YtaenebdppkjhoaaGreatDoor
