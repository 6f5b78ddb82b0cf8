/- Lemmas. -/
import Derived.Test.YtdmjoodhaeijmaaGreatDoorZn35
set_option maxHeartbeats 40000000
set_option maxRecDepth 20000
namespace Go.Proofs.YtdmjoodhaeijmaaGreatDoor
open Go.RowKit
def BS.subB (B:BS) (id:Int) (near:List Int) (t:Nat) (who:ByteArray) (k:Int) (fs:ByteArray) (fl:List Cnd):BS:=
 if B.subE id t who fs fl=0 then B.anew t ((B.R t).sub k who (fs,j7 fl)) near else B
def BS.subS (B:BS) (id:Int) (near:List Int) (t:Nat) (who:ByteArray) (k:Int) (fs:ByteArray) (fl:List Cnd):List Sd:=
 if B.subE id t who fs fl=0 then y9 ((B.R t).sub k who (fs,j7 fl)).M t near (B.R t).G else []
end Go.Proofs.YtdmjoodhaeijmaaGreatDoor
