/- Lemmas. -/
import Derived.Test.YtebhabpahfmodaaGreatDoorZh43
import Derived.Test.YtebhabpahfmodaaGreatDoorZh50
import Derived.Test.YtebhabpahfmodaaGreatDoorCards
import Derived.Test.YtebhabpahfmodaaGreatDoorTie
import Derived.Lay
import Derived.MakeChecks
set_option maxHeartbeats 40000000
set_option maxRecDepth 20000
namespace Go.Proofs.YtebhabpahfmodaaGreatDoor.brokerRoutes
open Go.ChangeShapes Go.WideShapes Go.ChangeAt Go.RowKit Go.Lib
theorem b6q (os:Os) (started:os.Started) (H:Type) (enc:TypeId×Value->H):
 ReturnsInHanded {} Tryz.checked os 3 .any (fun w args=>(Rows.brokerRoutesSpec.pre enc Tryz.prog Tryz.f3 [] false w args/\laidMetH Tryz.prog Rows.brokerRoutesRow.laid w)/\sizedMet enc Tryz.prog Tryz.f3 (OpenSpec.ofChange Rows.brokerRoutesSpec) false w args)
  (Rows.brokerRoutesSpec.post enc Tryz.prog Tryz.f3 false true false false):=by
 refine returnsInHanded_of_change_and (C:=Tryz.checked) (X:=fun w _=>laidMetH Tryz.prog Rows.brokerRoutesRow.laid w) (fun _ _ _ hh h=>h.of_heap hh) b3C started (by kernel_rfl) Tryz.func3
  (ChangeSpec.witness_shaped (enc:=enc) (C:=Tryz.checked) (os:=os) (X:=fun w _=>laidMetH Tryz.prog Rows.brokerRoutesRow.laid w) false (World.laidAll Tryz.prog os Rows.brokerRoutesRow.laid) #[.slice none 0 0,.slice none 0 0,.agg #[.int .i64 0,.int .i64 0,.int .i64 0,.int .i64 0,.string ⟨#[]⟩,.int .i64 0,.string ⟨#[]⟩,.slice none 0 0,.string ⟨#[]⟩,.int .i64 0,.string ⟨#[]⟩,.slice none 0 0,.string ⟨#[]⟩,.slice none 0 0,.int .i64 0,.string ⟨#[]⟩,.int .i64 0]] 8 (World.laidAll_os _ _ _)
    (World.shaped_of_ZipB (by kernel_rfl) (by kernel_rfl)) (by kernel_rfl) (by kernel_rfl) (by kernel_rfl)
    (by rw [MakeChecks.laidMetH_plain _ _ _ (by kernel_rfl)];exact laidMet_laidAll _ (by kernel_rfl) (by kernel_rfl))) ?_
 intro W base args ds gs before hval0 hW _ VA hL0 _;rw [MakeChecks.laidMetH_plain _ _ _ (by kernel_rfl)] at hL0;have hL:a3P W:=b41 hL0;have hN:16<=W.heap.size:=b01 hL0;have hval:∀(j:Nat) t v,Tryz.f3.params[j]? =some t->args[j]? =some v->Value.okWide Tryz.prog W .any base t v:=hval0;have hW':=hW;obtain ⟨p,q,Bw,hV,rfl,hfz,hnd⟩:=hW;have hA:DataW.TrodAll enc Tryz.prog W 0 (fun _=>true) true Tryz.f3.params.toList args.toList ds p:=Bw;rw [Tryz.params3] at hA hval;obtain ⟨v0,vs0,d0,ds0,p0,q0,hargs,rfl,rfl,h0,r0⟩:=trodAll_cons hA;obtain ⟨v1,vs1,d1,ds1,p1,q1,rfl,rfl,rfl,h1,r1⟩:=trodAll_cons r0;obtain ⟨v2,vs2,d2,ds2,p2,q2,rfl,rfl,rfl,h2,r2⟩:=trodAll_cons r1;obtain ⟨rfl,rfl,rfl⟩:=trodAll_nil r2;obtain rfl:args=#[v0,v1,v2]:=by cases args;simp_all
 obtain ⟨rfl,rfl⟩:=trodVars_none hV;simp only [zz11] at hW' Bw;have hwt:(DataW.weightsEach Tryz.prog (Tryz.f3.params.toList++Rows.brokerRoutesSpec.plain.varTypes Tryz.prog) _).all _=true:=VA;rw [Tryz.params3] at hwt;have hw0:∀n∈DataW.weights Tryz.prog 22 d0,n<=reachBytes:=fun n hn=>of_decide_eq_true (zz15 hwt n (D2 (i:=0) rfl rfl hn));obtain ⟨l,hr,hll,hin⟩:=a6z (hval 0 22 v0 rfl rfl) h0 hw0;have hw1:∀n∈DataW.weights Tryz.prog 23 d1,n<=reachBytes:=fun n hn=>of_decide_eq_true (zz15 hwt n (D2 (i:=1) rfl rfl hn));obtain ⟨A,hAq,FV,OE⟩:=a8R (hval 1 23 v1 rfl rfl) h1 hw1;have hw2:∀n∈DataW.weights Tryz.prog 33 d2,n<=reachBytes:=fun n hn=>of_decide_eq_true (zz15 hwt n (D2 (i:=2) rfl rfl hn));obtain ⟨z0,z1,z5,z7,r,z6,fs,es,ra,fa,qa,rc,fc,qc,fl,q,rfl,fE,hfi,hq,xL,hes,hqi⟩:=b0N (hval 2 33 v2 rfl rfl) h2 hw2;clear hval0;refine (a6a W (b0Z hL hN) v0 l ⟨hr,fun r h=>(hin r h).ok⟩ (b0c hll) (fun r h=>(hin r h).rin) v1 A hAq (b0c FV) (fun x h=>(OE x h).asin) z0 z1 z5 z7 r z6 fs es ra fa qa rc fc qc fl q fE hfi hq (b0c xL) (b0c hes) (fun a ha=>⟨Nat.le_trans (hqi a ha).1 a1T,Nat.le_trans (hqi a ha).2.text a1T⟩) (fun a ha=>(hqi a ha).2.num)).mono fun e W' ⟨he,hg⟩=> ?_;subst he;exact ⟨_,rfl,b1g hW' Bw (by kernel_rfl) rfl (fun _ _ _=>trodAll_cons_mk (shut_bool Tryz.underlying4 _) trodAll_mk0) (fun _=>rfl) (hg.below (fun _ _ h=>h) (Nat.le_refl _))⟩
theorem b6r:joinedFacts Tryz.prog 3 Tryz.f3 Rows.brokerRoutesSpec Rows.brokerRoutesRow=true:=by
 unfold joinedFacts
 repeat' (with_reducible refine b62 ?_ ?_)
 all_goals (as_aux_lemma=>kernel_rfl)
theorem b64:Rows.brokerRoutesRow.holds Tryz.pinned (OpenSpec.ofChange Rows.brokerRoutesSpec):=
 OpenClaim.holds_of_wide 3 Tryz.f3 rfl rfl rfl rfl rfl rfl rfl ⟨rfl,rfl,rfl,rfl,rfl⟩ rfl rfl rfl rfl rfl (by kernel_rfl) Tryz.func3 b6r
  (of_decide_eq_true (by kernel_rfl)) (by unfold Func.isWrapper;first|(rw [if_pos (by decide+kernel)];kernel_rfl)|(rw [if_neg (by decide+kernel)];exact ⟨rfl,rfl⟩))
  (fun os started H enc _=>b6q os started H enc)
theorem proved:Rows.BrokerRoutesCardSaid:=
 Claim7.holds_tied_plain_at .later [] [.data,.data,.data,.data,.data,.data,.pinned,.pinned,.pinned,.pinned,.pinned,.pinned,.pinned,.pinned] true (true, "14dad1af11faf31853548ef5edb69df77924695193ba24dfafabdeed16d4c292") false b64 (fun _ h=>by cases h) (by kernel_rfl) (fun _ h=>by cases h) brokerRoutes_row_tie rfl ⟨rfl,rfl⟩ (by kernel_rfl) rfl
  (fun f fn hf hfn=>by
    obtain rfl:f=3:=Option.some.inj ((show Tryz.prog.funcNamed "gazette/gazettelaw17.BrokerRoutes" =some 3 by kernel_rfl).symm.trans hf)|>.symm
    obtain rfl:fn=Tryz.f3:=(Option.some.inj (Tryz.func3.symm.trans hfn)).symm
    exact ⟨by kernel_rfl,fun j t ht=>by
     have hall:(Tryz.f3.params.toList.all fun u=> !Tryz.prog.wantsStandIn u)=true:=by kernel_rfl
     have hm:t∈Tryz.f3.params.toList:=Array.mem_toList_iff.2 (Array.mem_of_getElem? ht)
     exact (show Tryz.prog.wantsStandIn t=false by simpa using zz15 hall t hm)⟩)
  (by kernel_rfl)
#print axioms proved
end Go.Proofs.YtebhabpahfmodaaGreatDoor.brokerRoutes
