/- Lemmas. -/
import Derived.Test.YtaenebdppkjhoaaGreatDoorZg16
import Derived.Test.YtaenebdppkjhoaaGreatDoorZg10
namespace Go.Proofs.YtaenebdppkjhoaaGreatDoor
set_option maxRecDepth 20000
set_option maxHeartbeats 40000000
section
open Go.RowKit
theorem a5s:(match Tryz.prog.underlying 132 with|some (.struct _)=>true|some (.array _ _)=>true|_=>false)=true:=by kernel_rfl
theorem a01 {ρ:Operand->Value} {dst:Option Tmp} {x:Operand} {type:TypeId} {pos:String} {after:Array Edge} {guard:Option (Nat×Bool)} {w:World} (h:a4E w (ρ x) 7):
 Sem.run Tryz.prog (execOp ρ ⟨dst,.load 132 x,type,pos,after,guard⟩) w= .ok (.value (.agg (V4 w (ρ x) 7))) w:=B3 a5s a6n h
def a2z (c:Cnd) (l:List Att):Bool:=l.any fun a=>a.name.toList==c.name.toList&&c.holds a.v
attribute [local go_sem ↓] a01
end
section
open Go.RowKit
attribute [local go_sem ↓] a01
end
end Go.Proofs.YtaenebdppkjhoaaGreatDoor
