/- Lemmas. -/
import Derived.Test.YtebhabpahfmodaaGreatDoorZh46
set_option maxHeartbeats 40000000
set_option maxRecDepth 20000
namespace Go.Proofs.YtebhabpahfmodaaGreatDoor
open Go.RowKit
theorem b6f {F:Int} (h:F=1\/F=2):(Lit.int .i64 F).wf=true:=by rcases h with rfl|rfl<;>decide
end Go.Proofs.YtebhabpahfmodaaGreatDoor
