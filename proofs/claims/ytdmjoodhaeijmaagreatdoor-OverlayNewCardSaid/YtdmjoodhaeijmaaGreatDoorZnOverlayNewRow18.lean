/- Lemmas. -/
import Derived.Test.YtdmjoodhaeijmaaGreatDoorZnOverlayNewOver18
import Derived.Test.YtdmjoodhaeijmaaGreatDoorZnOverlayNewGoes18
import Derived.Test.YtdmjoodhaeijmaaGreatDoorCards
import Derived.Test.YtdmjoodhaeijmaaGreatDoorTie
set_option maxHeartbeats 40000000
set_option maxRecDepth 20000
namespace Go.Proofs.YtdmjoodhaeijmaaGreatDoor.overlayNew
open Go.ChangeShapes Go.WideShapes Go.ChangeAt Go.RowKit Go.Lib
theorem wfT:Rows.overlayNewRow.wfByText (OpenSpec.ofChange Rows.overlayNewSpec)=true:=by kernel_rfl
theorem b6G:Tryz.pinned.checked.prog.mainIs=some (true, "4b0ef80b6fa80114d7baa1067399112d4c579f9f39d585c4ae669ebbdbc2fbc5".toList):=by kernel_rfl
theorem b6j:∀f fn,Tryz.pinned.checked.prog.funcNamed Rows.overlayNewRow.func=some f->Tryz.pinned.checked.prog.funcs[f]? =some fn->false=Tryz.pinned.checked.prog.looks []/\∀(j:Nat) t,fn.params[j]? =some t->Tryz.pinned.checked.prog.wantsStandIn t=false:=
 (fun f fn hf hfn=>by
   obtain rfl:f=6:=Option.some.inj ((show Tryz.prog.funcNamed "gazette/gazettelaw18.OverlayNew" =some 6 by kernel_rfl).symm.trans hf)|>.symm
   obtain rfl:fn=Tryz.f6:=(Option.some.inj (Tryz.func6.symm.trans hfn)).symm
   exact ⟨by kernel_rfl,fun j t ht=>by
    have hall:(Tryz.f6.params.toList.all fun u=> !Tryz.prog.wantsStandIn u)=true:=by kernel_rfl
    have hm:t∈Tryz.f6.params.toList:=Array.mem_toList_iff.2 (Array.mem_of_getElem? ht)
    exact (show Tryz.prog.wantsStandIn t=false by simpa using zz15 hall t hm)⟩)
theorem proved:Rows.OverlayNewCardSaid:=
 Claim7.holds_tied_plain_at .later [] [.data,.data,.data,.data,.data,.data,.pinned,.pinned,.pinned,.pinned,.pinned,.pinned,.pinned,.pinned] true (true, "4b0ef80b6fa80114d7baa1067399112d4c579f9f39d585c4ae669ebbdbc2fbc5") false over (fun _ h=>by cases h) wfT (fun _ h=>by cases h) overlayNew_row_tie rfl ⟨rfl,rfl⟩ b6G rfl b6j b6V
#print axioms proved
end Go.Proofs.YtdmjoodhaeijmaaGreatDoor.overlayNew
