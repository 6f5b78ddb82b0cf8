/- Lemmas. -/
import Derived.Test.YtdmjoodhaeijmaaGreatDoorZn48
import Derived.Deep.Grids
import Derived.Lay
import Derived.LaidOnce
import Derived.SevenTiedAt
import Derived.MakeChecks
set_option maxHeartbeats 40000000
set_option maxRecDepth 20000
namespace Go.Proofs.YtdmjoodhaeijmaaGreatDoor.overlayNew
open Go.ChangeShapes Go.WideShapes Go.ChangeAt Go.RowKit Go.Lib
theorem b6h (os:Os) (started:os.Started) (H:Type) (enc:TypeId×Value->H):
 ReturnsInHanded {} Tryz.checked os 6 .any (fun w args=>(Rows.overlayNewSpec.pre enc Tryz.prog Tryz.f6 [] false w args/\laidMetH Tryz.prog Rows.overlayNewRow.laid w)/\sizedMet enc Tryz.prog Tryz.f6 (OpenSpec.ofChange Rows.overlayNewSpec) false w args)
  (Rows.overlayNewSpec.post enc Tryz.prog Tryz.f6 false true false false):=by
 refine returnsInHanded_of_change_and (C:=Tryz.checked) (X:=fun w _=>laidMetH Tryz.prog Rows.overlayNewRow.laid w) (fun _ _ _ hh h=>h.of_heap hh) b1w started (by kernel_rfl) Tryz.func6
  (ChangeSpec.witness_shaped (enc:=enc) (C:=Tryz.checked) (os:=os) (X:=fun w _=>laidMetH Tryz.prog Rows.overlayNewRow.laid w) false (World.laidAll Tryz.prog os Rows.overlayNewRow.laid) #[.int .i64 0] 8 (World.laidAll_os _ _ _)
    (World.shaped_of_ZipB (by kernel_rfl) (by kernel_rfl)) (by kernel_rfl) (by kernel_rfl) (by kernel_rfl)
    (by rw [MakeChecks.laidMetH_plain _ _ _ (by kernel_rfl)];exact laidMet_laidAll _ (by kernel_rfl) (by kernel_rfl))) ?_
 intro W base args ds gs before hval0 hW _ NC hL0 _;rw [MakeChecks.laidMetH_plain _ _ _ (by kernel_rfl)] at hL0;have hL:a3m W:=b43 hL0;have hN:16<=W.heap.size:=b0F hL0;have hval:∀(j:Nat) t v,Tryz.f6.params[j]? =some t->args[j]? =some v->Value.okWide Tryz.prog W .any base t v:=hval0;have hW':=hW;obtain ⟨p,q,Be,hV,rfl,hfz,hnd⟩:=hW;have hA:DataW.TrodAll enc Tryz.prog W 0 (fun _=>true) true Tryz.f6.params.toList args.toList ds p:=Be;rw [Tryz.params6] at hA hval;obtain ⟨v0,vs0,d0,ds0,p0,q0,hargs,rfl,rfl,h0,r0⟩:=trodAll_cons hA;obtain ⟨rfl,rfl,rfl⟩:=trodAll_nil r0;obtain rfl:args=#[v0]:=by cases args;simp_all
 obtain ⟨rfl,rfl⟩:=trodVars_none hV;simp only [zz11] at hW' Be;have hwt:(DataW.weightsEach Tryz.prog (Tryz.f6.params.toList++Rows.overlayNewSpec.plain.varTypes Tryz.prog) _).all _=true:=NC;rw [Tryz.params6] at hwt;obtain ⟨x0,rfl⟩:=okWide_int Tryz.underlying3 (hval 0 3 v0 rfl rfl);clear hval0;refine (a8q W (a8o hL hN) x0).mono fun e W' ⟨he,hg⟩=> ?_;subst he;exact ⟨_,rfl,a9E hW' Be (by kernel_rfl) rfl (fun _ _ _=>trodAll_cons_mk (shut_bool Tryz.underlying4 _) trodAll_mk0) (fun _=>rfl) (hg.below (fun _ _ h=>h) (Nat.le_refl _))⟩
theorem b6i:joinedFacts Tryz.prog 6 Tryz.f6 Rows.overlayNewSpec Rows.overlayNewRow=true:=by
 unfold joinedFacts
 repeat' (with_reducible refine b6U ?_ ?_)
 all_goals (as_aux_lemma=>kernel_rfl)
theorem over:Rows.overlayNewRow.holds Tryz.pinned (OpenSpec.ofChange Rows.overlayNewSpec):=
 OpenClaim.holds_of_wide 6 Tryz.f6 rfl rfl rfl rfl rfl rfl rfl ⟨rfl,rfl,rfl,rfl,rfl⟩ rfl rfl rfl rfl rfl (by kernel_rfl) Tryz.func6 b6i
  (of_decide_eq_true (by kernel_rfl)) (by unfold Func.isWrapper;first|(rw [if_pos (by decide+kernel)];kernel_rfl)|(rw [if_neg (by decide+kernel)];exact ⟨rfl,rfl⟩))
  (fun os started H enc _=>b6h os started H enc)
end Go.Proofs.YtdmjoodhaeijmaaGreatDoor.overlayNew
