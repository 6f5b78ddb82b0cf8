/- Lemmas. -/
import Derived.Test.YtaenebdppkjhoaaGreatDoorZf42
import Derived.Test.YtaenebdppkjhoaaGreatDoorZf50
import Derived.Test.YtaenebdppkjhoaaGreatDoorCards
import Derived.Test.YtaenebdppkjhoaaGreatDoorTie
import Derived.Lay
import Derived.MakeChecks
namespace Go.Proofs.YtaenebdppkjhoaaGreatDoor.brokerDrops
set_option maxHeartbeats 40000000
set_option maxRecDepth 20000
open Go.ChangeShapes Go.WideShapes Go.ChangeAt Go.RowKit Go.Lib
set_option maxRecDepth 100000 in
theorem b4r (os:Os) (started:os.Started) (H:Type) (enc:TypeId×Value->H):
 ReturnsInHanded {} Tryz.checked os 6 .any (fun w args=>(Rows.brokerDropsSpec.pre enc Tryz.prog Tryz.f6 [] false w args/\laidMetH Tryz.prog Rows.brokerDropsRow.laid w)/\sizedMet enc Tryz.prog Tryz.f6 (OpenSpec.ofChange Rows.brokerDropsSpec) false w args)
  (Rows.brokerDropsSpec.post enc Tryz.prog Tryz.f6 false true false false):=by
 refine returnsInHanded_of_change_and (C:=Tryz.checked) (X:=fun w _=>laidMetH Tryz.prog Rows.brokerDropsRow.laid w) (fun _ _ _ hh h=>h.of_heap hh) a9i started (by kernel_rfl) Tryz.func6
  (ChangeSpec.witness_shaped (enc:=enc) (C:=Tryz.checked) (os:=os) (X:=fun w _=>laidMetH Tryz.prog Rows.brokerDropsRow.laid w) false (World.laidAll Tryz.prog os Rows.brokerDropsRow.laid) #[.slice none 0 0,.slice none 0 0] 8 (World.laidAll_os _ _ _)
    (World.shaped_of_ZipB (by kernel_rfl) (by kernel_rfl)) (by kernel_rfl) (by kernel_rfl) (by kernel_rfl)
    (by rw [MakeChecks.laidMetH_plain _ _ _ (by kernel_rfl)];exact laidMet_laidAll _ (by kernel_rfl) (by kernel_rfl))) ?_
 intro W base args ds gs before hval0 hW _ hwt0 hL0 _;rw [MakeChecks.laidMetH_plain _ _ _ (by kernel_rfl)] at hL0;have hL:a2y W:=b24 hL0;have hN:16<=W.heap.size:=a8T hL0;have hval:∀(j:Nat) t v,Tryz.f6.params[j]? =some t->args[j]? =some v->Value.okWide Tryz.prog W .any base t v:=hval0;have hW':=hW;obtain ⟨p,q,hA0,hV,rfl,hfz,hnd⟩:=hW;have hA:DataW.TrodAll enc Tryz.prog W 0 (fun _=>true) true Tryz.f6.params.toList args.toList ds p:=hA0;rw [Tryz.params6] at hA hval;obtain ⟨v0,vs0,d0,ds0,p0,q0,hargs,rfl,rfl,h0,r0⟩:=trodAll_cons hA;obtain ⟨v1,vs1,d1,ds1,p1,q1,rfl,rfl,rfl,h1,r1⟩:=trodAll_cons r0;obtain ⟨rfl,rfl,rfl⟩:=trodAll_nil r1;obtain rfl:args=#[v0,v1]:=by cases args;simp_all
 obtain ⟨rfl,rfl⟩:=trodVars_none hV;simp only [zz11] at hW' hA0;have hwt:(DataW.weightsEach Tryz.prog (Tryz.f6.params.toList++Rows.brokerDropsSpec.plain.varTypes Tryz.prog) _).all _=true:=hwt0;rw [Tryz.params6] at hwt;have hw0:∀n∈DataW.weights Tryz.prog 22 d0,n<=reachBytes:=fun n hn=>of_decide_eq_true (zz15 hwt n (D7 (i:=0) rfl rfl hn));obtain ⟨l,hr,hll,hin⟩:=a4Z (hval 0 22 v0 rfl rfl) h0 hw0;have hw1:∀n∈DataW.weights Tryz.prog 81 d1,n<=reachBytes:=fun n hn=>of_decide_eq_true (zz15 hwt n (D7 (i:=1) rfl rfl hn));obtain ⟨A,hAq,hAl,hAi⟩:=a6V (hval 1 81 v1 rfl rfl) h1 hw1;clear hval0;refine (a5N W (a8R hL hN) v0 l ⟨hr,fun r h=>(hin r h).ok⟩ (b2g hll) (fun r h=>(hin r h).rin) v1 A hAq (b2g hAl) (fun x h=>(hAi x h).asin)).mono fun e W' ⟨he,hg⟩=> ?_;subst he;exact ⟨_,rfl,a7W hW' hA0 (by kernel_rfl) rfl (fun _ _ _=>trodAll_cons_mk (shut_bool Tryz.underlying4 _) trodAll_mk0) (fun _=>rfl) (hg.below (fun _ _ h=>h) (Nat.le_refl _))⟩
set_option maxRecDepth 100000 in
theorem b4s:joinedFacts Tryz.prog 6 Tryz.f6 Rows.brokerDropsSpec Rows.brokerDropsRow=true:=by
 unfold joinedFacts
 repeat' (with_reducible refine b4V ?_ ?_)
 all_goals (as_aux_lemma=>kernel_rfl)
theorem b4W:Rows.brokerDropsRow.holds Tryz.pinned (OpenSpec.ofChange Rows.brokerDropsSpec):=
 OpenClaim.holds_of_wide 6 Tryz.f6 rfl rfl rfl rfl rfl rfl rfl ⟨rfl,rfl,rfl,rfl,rfl⟩ rfl rfl rfl rfl rfl (by kernel_rfl) Tryz.func6 b4s
  (of_decide_eq_true (by kernel_rfl)) (by unfold Func.isWrapper;first|(rw [if_pos (by decide+kernel)];kernel_rfl)|(rw [if_neg (by decide+kernel)];exact ⟨rfl,rfl⟩))
  (fun os started H enc _=>b4r os started H enc)
theorem proved:Rows.BrokerDropsCardSaid:=
 Claim7.holds_tied_plain_at .later [] [.data,.data,.data,.data,.data,.data,.pinned,.pinned,.pinned,.pinned,.pinned,.pinned,.pinned,.pinned] true (true, "fbe25222eb1d0a81be0844de8631c5cf95b2c06bb8929746ec7bc7430b948997") false b4W (fun _ h=>by cases h) (by kernel_rfl) (fun _ h=>by cases h) brokerDrops_row_tie rfl ⟨rfl,rfl⟩ (by kernel_rfl) rfl
  (fun f fn hf hfn=>by
    obtain rfl:f=6:=Option.some.inj ((show Tryz.prog.funcNamed "gazette/gazettelaw17.BrokerDrops" =some 6 by kernel_rfl).symm.trans hf)|>.symm
    obtain rfl:fn=Tryz.f6:=(Option.some.inj (Tryz.func6.symm.trans hfn)).symm
    exact ⟨by kernel_rfl,fun j t ht=>by
     have hall:(Tryz.f6.params.toList.all fun u=> !Tryz.prog.wantsStandIn u)=true:=by kernel_rfl
     have hm:t∈Tryz.f6.params.toList:=Array.mem_toList_iff.2 (Array.mem_of_getElem? ht)
     exact (show Tryz.prog.wantsStandIn t=false by simpa using zz15 hall t hm)⟩)
  (by kernel_rfl)
#print axioms proved
end Go.Proofs.YtaenebdppkjhoaaGreatDoor.brokerDrops
