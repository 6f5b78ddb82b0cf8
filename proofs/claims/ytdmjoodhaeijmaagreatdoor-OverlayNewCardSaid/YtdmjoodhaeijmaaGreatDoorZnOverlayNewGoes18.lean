/- Lemmas. -/
import Derived.Test.YtdmjoodhaeijmaaGreatDoorZn20
import Derived.SevenTiedAt
set_option maxHeartbeats 40000000
set_option maxRecDepth 20000
namespace Go.Proofs.YtdmjoodhaeijmaaGreatDoor.overlayNew
open Go.ChangeShapes Go.WideShapes Go.ChangeAt Go.RowKit
theorem b6V:false=Rows.overlayNewRow.goesBy Tryz.pinned.checked.prog:=by kernel_rfl
end Go.Proofs.YtdmjoodhaeijmaaGreatDoor.overlayNew
