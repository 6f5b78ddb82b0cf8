/- Lemmas. -/
import Derived.Test.YtaenebdppkjhoaaGreatDoorZf43
namespace Go.Proofs.YtaenebdppkjhoaaGreatDoor
set_option maxRecDepth 20000
set_option maxHeartbeats 40000000
section
open Go.RowKit
structure PbS (wa:World) (k:Nat) (es:ByteArray) (ea:Option Addr) (n ec:Nat) (y:World):Prop where
 e0:y.cell? ⟨k,0,none⟩=some (.string es)
 e1:y.cell? ⟨k,1,none⟩=some (.slice ea n ec)
 md:Mod (fun _=>False) wa y
end
end Go.Proofs.YtaenebdppkjhoaaGreatDoor
