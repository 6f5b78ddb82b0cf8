/- Lemmas. -/
import Derived.Test.YtaenebdppkjhoaaGreatDoorZg44
import Derived.Test.YtaenebdppkjhoaaGreatDoorZg50
import Derived.Test.YtaenebdppkjhoaaGreatDoorCards
import Derived.Test.YtaenebdppkjhoaaGreatDoorTie
import Derived.Lay
import Derived.MakeChecks
namespace Go.Proofs.YtaenebdppkjhoaaGreatDoor.brokerTenants
set_option maxHeartbeats 40000000
set_option maxRecDepth 20000
open Go.ChangeShapes Go.WideShapes Go.ChangeAt Go.RowKit Go.Lib
set_option maxRecDepth 100000 in
theorem b5b (os:Os) (started:os.Started) (H:Type) (enc:TypeId×Value->H):
 ReturnsInHanded {} Tryz.checked os 8 .any (fun w args=>(Rows.brokerTenantsSpec.pre enc Tryz.prog Tryz.f8 [] false w args/\laidMetH Tryz.prog Rows.brokerTenantsRow.laid w)/\sizedMet enc Tryz.prog Tryz.f8 (OpenSpec.ofChange Rows.brokerTenantsSpec) false w args)
  (Rows.brokerTenantsSpec.post enc Tryz.prog Tryz.f8 false true false false):=by
 refine returnsInHanded_of_change_and (C:=Tryz.checked) (X:=fun w _=>laidMetH Tryz.prog Rows.brokerTenantsRow.laid w) (fun _ _ _ hh h=>h.of_heap hh) a96 started (by kernel_rfl) Tryz.func8
  (ChangeSpec.witness_shaped (enc:=enc) (C:=Tryz.checked) (os:=os) (X:=fun w _=>laidMetH Tryz.prog Rows.brokerTenantsRow.laid w) false (World.laidAll Tryz.prog os Rows.brokerTenantsRow.laid) #[.slice none 0 0,.slice none 0 0,.agg #[.string ⟨#[]⟩,.slice none 0 0]] 8 (World.laidAll_os _ _ _)
    (World.shaped_of_ZipB (by kernel_rfl) (by kernel_rfl)) (by kernel_rfl) (by kernel_rfl) (by kernel_rfl)
    (by rw [MakeChecks.laidMetH_plain _ _ _ (by kernel_rfl)];exact laidMet_laidAll _ (by kernel_rfl) (by kernel_rfl))) ?_
 intro W base args ds gs before hval0 hW _ hwt0 hL0 _;rw [MakeChecks.laidMetH_plain _ _ _ (by kernel_rfl)] at hL0;have hL:a2Z W:=b3R hL0;have hN:16<=W.heap.size:=a9L hL0;have hval:∀(j:Nat) t v,Tryz.f8.params[j]? =some t->args[j]? =some v->Value.okWide Tryz.prog W .any base t v:=hval0;have hW':=hW;obtain ⟨p,q,hA0,hV,rfl,hfz,hnd⟩:=hW;have hA:DataW.TrodAll enc Tryz.prog W 0 (fun _=>true) true Tryz.f8.params.toList args.toList ds p:=hA0;rw [Tryz.params8] at hA hval;obtain ⟨v0,vs0,d0,ds0,p0,q0,hargs,rfl,rfl,h0,r0⟩:=trodAll_cons hA;obtain ⟨v1,vs1,d1,ds1,p1,q1,rfl,rfl,rfl,h1,r1⟩:=trodAll_cons r0;obtain ⟨v2,vs2,d2,ds2,p2,q2,rfl,rfl,rfl,h2,r2⟩:=trodAll_cons r1;obtain ⟨rfl,rfl,rfl⟩:=trodAll_nil r2;obtain rfl:args=#[v0,v1,v2]:=by cases args;simp_all
 obtain ⟨rfl,rfl⟩:=trodVars_none hV;simp only [zz11] at hW' hA0;have hwt:(DataW.weightsEach Tryz.prog (Tryz.f8.params.toList++Rows.brokerTenantsSpec.plain.varTypes Tryz.prog) _).all _=true:=hwt0;rw [Tryz.params8] at hwt;have hw0:∀n∈DataW.weights Tryz.prog 22 d0,n<=reachBytes:=fun n hn=>of_decide_eq_true (zz15 hwt n (B5 (i:=0) rfl rfl hn));obtain ⟨l,hr,hll,hin⟩:=a5u (hval 0 22 v0 rfl rfl) h0 hw0;have hw1:∀n∈DataW.weights Tryz.prog 81 d1,n<=reachBytes:=fun n hn=>of_decide_eq_true (zz15 hwt n (B5 (i:=1) rfl rfl hn));obtain ⟨A,hAq,hAl,hAi⟩:=a7B (hval 1 81 v1 rfl rfl) h1 hw1;have hw2:∀n∈DataW.weights Tryz.prog 46 d2,n<=reachBytes:=fun n hn=>of_decide_eq_true (zz15 hwt n (B5 (i:=2) rfl rfl hn));obtain ⟨es,av,q,rfl,hes,hq,hql,hqi⟩:=b1m (hval 2 46 v2 rfl rfl) h2 hw2;clear hval0;refine (a3R W (a9J hL hN) v0 l ⟨hr,fun r h=>(hin r h).ok⟩ (a83 hll) (fun r h=>(hin r h).rin) v1 A hAq (a83 hAl) (fun x h=>(hAi x h).asin) es av q hq (a83 hql) (a83 hes) (fun a ha=>⟨Nat.le_trans (hqi a ha).1 a1j,Nat.le_trans (hqi a ha).2.text a1j⟩)).mono fun e W' ⟨he,hg⟩=> ?_;subst he;exact ⟨_,rfl,a8G hW' hA0 (by kernel_rfl) rfl (fun _ _ _=>trodAll_cons_mk (shut_bool Tryz.underlying4 _) trodAll_mk0) (fun _=>rfl) (hg.below (fun _ _ h=>h) (Nat.le_refl _))⟩
set_option maxRecDepth 100000 in
theorem b5c:joinedFacts Tryz.prog 8 Tryz.f8 Rows.brokerTenantsSpec Rows.brokerTenantsRow=true:=by
 unfold joinedFacts
 repeat' (with_reducible refine b5E ?_ ?_)
 all_goals (as_aux_lemma=>kernel_rfl)
theorem b5F:Rows.brokerTenantsRow.holds Tryz.pinned (OpenSpec.ofChange Rows.brokerTenantsSpec):=
 OpenClaim.holds_of_wide 8 Tryz.f8 rfl rfl rfl rfl rfl rfl rfl ⟨rfl,rfl,rfl,rfl,rfl⟩ rfl rfl rfl rfl rfl (by kernel_rfl) Tryz.func8 b5c
  (of_decide_eq_true (by kernel_rfl)) (by unfold Func.isWrapper;first|(rw [if_pos (by decide+kernel)];kernel_rfl)|(rw [if_neg (by decide+kernel)];exact ⟨rfl,rfl⟩))
  (fun os started H enc _=>b5b os started H enc)
theorem proved:Rows.BrokerTenantsCardSaid:=
 Claim7.holds_tied_plain_at .later [] [.data,.data,.data,.data,.data,.data,.pinned,.pinned,.pinned,.pinned,.pinned,.pinned,.pinned,.pinned] true (true, "fbe25222eb1d0a81be0844de8631c5cf95b2c06bb8929746ec7bc7430b948997") false b5F (fun _ h=>by cases h) (by kernel_rfl) (fun _ h=>by cases h) brokerTenants_row_tie rfl ⟨rfl,rfl⟩ (by kernel_rfl) rfl
  (fun f fn hf hfn=>by
    obtain rfl:f=8:=Option.some.inj ((show Tryz.prog.funcNamed "gazette/gazettelaw17.BrokerTenants" =some 8 by kernel_rfl).symm.trans hf)|>.symm
    obtain rfl:fn=Tryz.f8:=(Option.some.inj (Tryz.func8.symm.trans hfn)).symm
    exact ⟨by kernel_rfl,fun j t ht=>by
     have hall:(Tryz.f8.params.toList.all fun u=> !Tryz.prog.wantsStandIn u)=true:=by kernel_rfl
     have hm:t∈Tryz.f8.params.toList:=Array.mem_toList_iff.2 (Array.mem_of_getElem? ht)
     exact (show Tryz.prog.wantsStandIn t=false by simpa using zz15 hall t hm)⟩)
  (by kernel_rfl)
#print axioms proved
end Go.Proofs.YtaenebdppkjhoaaGreatDoor.brokerTenants
