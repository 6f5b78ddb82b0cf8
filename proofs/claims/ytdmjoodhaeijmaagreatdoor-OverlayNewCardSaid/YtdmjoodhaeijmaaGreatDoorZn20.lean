/- Lemmas. -/
import Derived.Test.YtdmjoodhaeijmaaGreatDoorRows
import Derived.ProofKit
import Derived.OpenShut
import Derived.Carry
import Derived.Test.YtdmjoodhaeijmaaGreatDoorZn17
set_option maxHeartbeats 40000000
set_option maxRecDepth 20000
namespace Go.Proofs.YtdmjoodhaeijmaaGreatDoor
section
open Go.ChangeShapes Go.WideShapes Go.ChangeAt Go.RowKit
theorem b1w:ownKnob Tryz.prog.godebug=none:=zk
theorem b31:laidOutB Tryz.prog=true:=zk
theorem a1z {H:Type} {enc:TypeId×Value->H} {P:Program} (hl:laidOutB P=true) {W W':World} (hb:Below W.heap.size W W'):∀{ts:List TypeId} {vs:List Value} {ds:List (DataW H)} {ps:List MemPlace}
 (_:ts.all (fun t=>P.readableRec t&&decide (t<P.types.size))=true) (_:DataW.TrodAll enc P W 0 (fun _=>true) true ts vs ds ps) (_:∀x∈ps,x.block<W.heap.size),DataW.TrodAll enc P W' 0 (fun b=>decide (b<W.heap.size)) true ts vs ds ps
 |[],vs,ds,ps,_,h,_=>by
  obtain ⟨rfl,rfl,rfl⟩:=trodAll_nil h;exact trodAll_mk0
 |t::ts,vs,ds,ps,hr,h,hlt=>by
  obtain ⟨v,vs',d,ds',p,q,rfl,rfl,rfl,h1,h2⟩:=trodAll_cons h;simp only [List.all_cons,Bool.and_eq_true,decide_eq_true_eq] at hr;exact trodAll_cons_mk (Below.trod hl hr.1.1 hr.1.2 h1 hb (fun x hx=>hlt x (List.mem_append_left _ hx))) (a1z hl hb hr.2 h2 (fun x hx=>hlt x (List.mem_append_right _ hx)))
theorem a9E {H:Type} {enc:TypeId×Value->H} {f:Func} {s:ChangeSpec} {apart fresh handsOn:Bool} {W W':World} {args:Array Value} {v:Value} {ds gs:List (DataW H)} {before:List MemPlace}
 (hW:DataW.Whole enc Tryz.prog f.params.toList s.vars apart W args.toList ds gs before)
 (hA:DataW.TrodAll enc Tryz.prog W 0 (fun _=>true) true f.params.toList args.toList ds before)
 (hr:f.params.toList.all (fun t=>Tryz.prog.readableRec t&&decide (t<Tryz.prog.types.size))=true) (hds:(s.fn H (ds++gs)).args=ds)
 (hres:∀(b:Nat) (sp:Nat->Bool) (hd:Bool),DataW.TrodAll enc Tryz.prog W' b sp hd f.resultTypes.toList (v.resultList f.resultTypes.size) (s.fn H (ds++gs)).results [])
 (hvars:∀sp:Nat->Bool,DataW.TrodVars enc Tryz.prog W' sp s.vars (s.fn H (ds++gs)).vars [])
 (hb:Below W.heap.size W W'):s.post enc Tryz.prog f apart fresh handsOn false W args v W':=by
 have hold:∀p∈before,p.block<W.heap.size:=fun p hp=>by simpa using hW.lt p hp
 have hargs:=a1z b31 hb hr hA hold;refine ⟨ds,gs,before,[],before,[],hW,hres _ _ _, ?_,hvars _,World.keptBut_mono (fun p hp=>⟨hp,by simpa using hp⟩) (hb.frame (· ∈before)),fun h=>by cases h⟩;rw [hds];exact hargs
end
open Go.RowKit
theorem b1x {p:Prop} (r:Ru) (k tenant:Int) (who:ByteArray) (h1:(r.kind==k)=false->r.of k tenant who=false->p) (h2:(r.kind==k)=true->(r.tenant==tenant)=false->r.of k tenant who=false->p)
 (h3:(r.kind==k)=true->(r.tenant==tenant)=true->(r.who.toList==who.toList)=false->r.of k tenant who=false->p)
 (h4:(r.kind==k)=true->(r.tenant==tenant)=true->(r.who.toList==who.toList)=true->r.of k tenant who=true->p):p:=by
 cases a1:r.kind==k
 ·exact h1 a1 (by unfold Ru.of;rw [a1];rfl)
 cases a2:r.tenant==tenant
 ·exact h2 a1 a2 (by unfold Ru.of;rw [a1,a2];rfl)
 cases a3:r.who.toList==who.toList
 ·exact h3 a1 a2 a3 (by unfold Ru.of;rw [a1,a2,a3];rfl)
 exact h4 a1 a2 a3 (by unfold Ru.of;rw [a1,a2,a3];rfl)
end Go.Proofs.YtdmjoodhaeijmaaGreatDoor
