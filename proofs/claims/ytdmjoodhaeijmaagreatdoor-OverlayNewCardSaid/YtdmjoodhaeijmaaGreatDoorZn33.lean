/- Lemmas. -/
import Derived.Test.YtdmjoodhaeijmaaGreatDoorZn30
import Derived.Test.YtdmjoodhaeijmaaGreatDoorZn31
set_option maxHeartbeats 40000000
set_option maxRecDepth 20000
namespace Go.Proofs.YtdmjoodhaeijmaaGreatDoor
open Go.RowKit
theorem M0.cells {w:World} {ow:Ow} {c g:Nat} {id:Int} {near:List Int} {B:BS} {a:BAd} (h:M0 w ow c g id near B a) {t:Nat} (ht:t<4):
 w.cell? ⟨g,3+t*4,none⟩=some (ptr (a.tb t))/\w.cell? ⟨g,3+t*4+1,none⟩=some (ptr (a.ib t))/\w.cell? ⟨g,3+t*4+2,none⟩=some (.map (some (a.sb t)))/\w.cell? ⟨g,3+t*4+3,none⟩=some (.map (some (a.mb t))):=by
 obtain ⟨L,hl, -⟩:=h.log;have h4:t=0\/t=1\/t=2\/t=3:=zo
 rcases h4 with rfl|rfl|rfl|rfl<;>exact ⟨d6 hl.row rfl,d6 hl.row rfl,d6 hl.row rfl,d6 hl.row rfl⟩
structure a7Z (es:ByteArray) (el:List Att):Prop where
 es:es.size<=52
 len:el.length<=8
 ris:M8 el
 each:∀a∈el,a.name.size<=12/\a.v.text.size<=40
structure RtF (wa:World) (k g t tb ib:Nat) (x:Mv) (na:Option Addr) (n nc:Nat) (y:World):Prop where
 r0:y.cell? ⟨g,3+t*4,none⟩=some (.pointer (some ⟨tb,0,none⟩))
 r1:y.cell? ⟨g,3+t*4+1,none⟩=some (.pointer (some ⟨ib,0,none⟩))
 e0:y.cell? ⟨k,12,none⟩=some (.string x.m.es)
 e1:y.cell? ⟨k,13,none⟩=some (.slice x.ea x.m.el.length x.ec)
 e2:y.cell? ⟨k,14,none⟩=some (.int .i64 x.m.ver)
 nr:y.cell? ⟨g,2,none⟩=some (.slice na n nc)
 md:Mod (fun _=>False) wa y
def b6S (L:List PRu) (tenant:Int) (who:ByteArray) (es:ByteArray) (el:List Att):Bool:=
 (a1A L tenant who).isSome&&L.any fun p=>(p.lies none 0).of 1 tenant who&&T4 p.sc p.cs es el
def BS.pubE (B:BS) (id tenant:Int) (who:ByteArray) (es:ByteArray) (el:List Att):Int:=
 if (a5A el&&B5 es)=true then if B.there id tenant who=true then if b6S (atP B.L B.L.length) tenant who es el=true then 0 else 5 else 3 else 1
end Go.Proofs.YtdmjoodhaeijmaaGreatDoor
