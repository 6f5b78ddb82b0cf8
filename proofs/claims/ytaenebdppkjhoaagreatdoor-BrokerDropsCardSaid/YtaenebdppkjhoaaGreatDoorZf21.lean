/- Lemmas. -/
import Derived.Test.YtaenebdppkjhoaaGreatDoorZf16
import Derived.Test.YtaenebdppkjhoaaGreatDoorZf10
namespace Go.Proofs.YtaenebdppkjhoaaGreatDoor
set_option maxRecDepth 20000
set_option maxHeartbeats 40000000
section
open Go.RowKit
theorem a4W:(match Tryz.prog.underlying 132 with|some (.struct _)=>true|some (.array _ _)=>true|_=>false)=true:=by kernel_rfl
theorem a0J {ρ:Operand->Value} {dst:Option Tmp} {x:Operand} {type:TypeId} {pos:String} {after:Array Edge} {guard:Option (Nat×Bool)} {w:World} (h:a4c w (ρ x) 7):
 Sem.run Tryz.prog (execOp ρ ⟨dst,.load 132 x,type,pos,after,guard⟩) w= .ok (.value (.agg (T6 w (ρ x) 7))) w:=A0 a4W a5R h
def a17 (c:Cnd) (l:List Att):Bool:=l.any fun a=>a.name.toList==c.name.toList&&c.holds a.v
attribute [local go_sem ↓] a0J
end
section
open Go.RowKit
attribute [local go_sem ↓] a0J
end
end Go.Proofs.YtaenebdppkjhoaaGreatDoor
