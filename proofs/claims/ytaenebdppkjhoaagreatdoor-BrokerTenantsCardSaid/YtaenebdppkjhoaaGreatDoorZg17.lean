/- Lemmas. -/
import Derived.Test.YtaenebdppkjhoaaGreatDoorZg11
namespace Go.Proofs.YtaenebdppkjhoaaGreatDoor
set_option maxRecDepth 20000
set_option maxHeartbeats 40000000
section
open Go.RowKit
theorem b0l {p:Prop} (r:Ru) (k tenant:Int) (who:ByteArray) (h1:(r.kind==k)=false->r.of k tenant who=false->p) (h2:(r.kind==k)=true->(r.tenant==tenant)=false->r.of k tenant who=false->p)
 (h3:(r.kind==k)=true->(r.tenant==tenant)=true->(r.who.toList==who.toList)=false->r.of k tenant who=false->p)
 (h4:(r.kind==k)=true->(r.tenant==tenant)=true->(r.who.toList==who.toList)=true->r.of k tenant who=true->p):p:=by
 cases a1:r.kind==k
 ·exact h1 a1 (by unfold Ru.of;rw [a1];rfl)
 cases a2:r.tenant==tenant
 ·exact h2 a1 a2 (by unfold Ru.of;rw [a1,a2];rfl)
 cases a3:r.who.toList==who.toList
 ·exact h3 a1 a2 a3 (by unfold Ru.of;rw [a1,a2,a3];rfl)
 exact h4 a1 a2 a3 (by unfold Ru.of;rw [a1,a2,a3];rfl)
end
end Go.Proofs.YtaenebdppkjhoaaGreatDoor
