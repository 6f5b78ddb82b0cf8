/- Lemmas. -/
import Derived.Test.YtebhabpahfmodaaGreatDoorZh39
set_option maxHeartbeats 40000000
set_option maxRecDepth 20000
namespace Go.Proofs.YtebhabpahfmodaaGreatDoor
open Go.RowKit
structure PbS (wa:World) (k:Nat) (es:ByteArray) (ea:Option Addr) (n ec:Nat) (y:World):Prop where
 e0:y.cell? ⟨k,0,none⟩=some (.string es)
 e1:y.cell? ⟨k,1,none⟩=some (.slice ea n ec)
 md:Mod (fun _=>False) wa y
end Go.Proofs.YtebhabpahfmodaaGreatDoor
