/-
  BrokerPublishes returns true for every input, and leaves its arguments as they were. The row lists package-level variables, tied to the program's text by the card; it bears no other condition.
-/
import Derived.Test.YtaenebdppkjhoaaGreatDoorZa1
import Derived.Test.YtaenebdppkjhoaaGreatDoorZa10
import Derived.Test.YtaenebdppkjhoaaGreatDoorZa11
import Derived.Test.YtaenebdppkjhoaaGreatDoorZa12
import Derived.Test.YtaenebdppkjhoaaGreatDoorZa13
import Derived.Test.YtaenebdppkjhoaaGreatDoorZa14
import Derived.Test.YtaenebdppkjhoaaGreatDoorZa15
import Derived.Test.YtaenebdppkjhoaaGreatDoorZa16
import Derived.Test.YtaenebdppkjhoaaGreatDoorZa17
import Derived.Test.YtaenebdppkjhoaaGreatDoorZa18
import Derived.Test.YtaenebdppkjhoaaGreatDoorZa19
import Derived.Test.YtaenebdppkjhoaaGreatDoorZa2
import Derived.Test.YtaenebdppkjhoaaGreatDoorZa20
import Derived.Test.YtaenebdppkjhoaaGreatDoorZa21
import Derived.Test.YtaenebdppkjhoaaGreatDoorZa22
import Derived.Test.YtaenebdppkjhoaaGreatDoorZa23
import Derived.Test.YtaenebdppkjhoaaGreatDoorZa24
import Derived.Test.YtaenebdppkjhoaaGreatDoorZa25
import Derived.Test.YtaenebdppkjhoaaGreatDoorZa26
import Derived.Test.YtaenebdppkjhoaaGreatDoorZa27
import Derived.Test.YtaenebdppkjhoaaGreatDoorZa28
import Derived.Test.YtaenebdppkjhoaaGreatDoorZa29
import Derived.Test.YtaenebdppkjhoaaGreatDoorZa3
import Derived.Test.YtaenebdppkjhoaaGreatDoorZa30
import Derived.Test.YtaenebdppkjhoaaGreatDoorZa31
import Derived.Test.YtaenebdppkjhoaaGreatDoorZa32
import Derived.Test.YtaenebdppkjhoaaGreatDoorZa33
import Derived.Test.YtaenebdppkjhoaaGreatDoorZa34
import Derived.Test.YtaenebdppkjhoaaGreatDoorZa35
import Derived.Test.YtaenebdppkjhoaaGreatDoorZa36
import Derived.Test.YtaenebdppkjhoaaGreatDoorZa37
import Derived.Test.YtaenebdppkjhoaaGreatDoorZa38
import Derived.Test.YtaenebdppkjhoaaGreatDoorZa39
import Derived.Test.YtaenebdppkjhoaaGreatDoorZa4
import Derived.Test.YtaenebdppkjhoaaGreatDoorZa40
import Derived.Test.YtaenebdppkjhoaaGreatDoorZa41
import Derived.Test.YtaenebdppkjhoaaGreatDoorZa42
import Derived.Test.YtaenebdppkjhoaaGreatDoorZa43
import Derived.Test.YtaenebdppkjhoaaGreatDoorZa44
import Derived.Test.YtaenebdppkjhoaaGreatDoorZa45
import Derived.Test.YtaenebdppkjhoaaGreatDoorZa46
import Derived.Test.YtaenebdppkjhoaaGreatDoorZa47
import Derived.Test.YtaenebdppkjhoaaGreatDoorZa5
import Derived.Test.YtaenebdppkjhoaaGreatDoorZa6
import Derived.Test.YtaenebdppkjhoaaGreatDoorZa7
import Derived.Test.YtaenebdppkjhoaaGreatDoorZa8
import Derived.Test.YtaenebdppkjhoaaGreatDoorZa9
import Derived.Test.YtaenebdppkjhoaaGreatDoorZb3
import Derived.Test.YtaenebdppkjhoaaGreatDoorZb4
import Derived.Test.YtaenebdppkjhoaaGreatDoorCards
import Derived.Test.YtaenebdppkjhoaaGreatDoorTie
import Derived.Deep.Grids
import Derived.Lay
import Derived.LaidOnce
import Derived.SevenTiedAt
import Derived.MakeChecks
namespace Go.Proofs.YtaenebdppkjhoaaGreatDoor.brokerPublishes
set_option maxRecDepth 20000
open Go.ChangeShapes Go.WideShapes Go.ChangeAt Go.RowKit Go.Lib
set_option maxRecDepth 100000 in
theorem lifted (os : Os) (started : os.Started) (H : Type) (enc : TypeId × Value → H) :
    ReturnsInHanded {} Tryz.checked os 4 .any (fun w args => (Rows.brokerPublishesSpec.pre enc Tryz.prog Tryz.f4 [] false w args ∧ laidMetH Tryz.prog Rows.brokerPublishesRow.laid w) ∧ sizedMet enc Tryz.prog Tryz.f4 (OpenSpec.ofChange Rows.brokerPublishesSpec) false w args)
      (Rows.brokerPublishesSpec.post enc Tryz.prog Tryz.f4 false true false false) := by
  refine returnsInHanded_of_change_and (C := Tryz.checked) (X := fun w _ => laidMetH Tryz.prog Rows.brokerPublishesRow.laid w) (fun _ _ _ hh h => h.of_heap hh) own_knob started (by kernel_rfl) Tryz.func4
    (ChangeSpec.witness_shaped (enc := enc) (C := Tryz.checked) (os := os) (X := fun w _ => laidMetH Tryz.prog Rows.brokerPublishesRow.laid w) false (World.laidAll Tryz.prog os Rows.brokerPublishesRow.laid) #[.slice none 0 0, .agg #[.int .i64 0, .int .i64 0], .agg #[.string ⟨#[]⟩, .slice none 0 0]] 8 (World.laidAll_os _ _ _)
      (World.shaped_of_ZipB (by kernel_rfl) (by kernel_rfl)) (by kernel_rfl) (by kernel_rfl) (by kernel_rfl)
      (by rw [MakeChecks.laidMetH_plain _ _ _ (by kernel_rfl)]; exact laidMet_laidAll _ (by kernel_rfl) (by kernel_rfl))) ?_
  intro W base args ds gs before hval0 hW _ hwt0 hL0 _
  rw [MakeChecks.laidMetH_plain _ _ _ (by kernel_rfl)] at hL0
  have hL : LaidAt W := laid_of hL0
  have hN : 16 ≤ W.heap.size := laid_size hL0
  have hval : ∀ (j : Nat) t v, Tryz.f4.params[j]? = some t → args[j]? = some v → Value.okWide Tryz.prog W .any base t v := hval0
  have hW' := hW
  obtain ⟨p, q, hA0, hV, rfl, hfz, hnd⟩ := hW
  have hA : DataW.TrodAll enc Tryz.prog W 0 (fun _ => true) true Tryz.f4.params.toList args.toList ds p := hA0
  rw [Tryz.params4] at hA hval
  obtain ⟨v0, vs0, d0, ds0, p0, q0, hargs, rfl, rfl, h0, r0⟩ := trodAll_cons hA
  obtain ⟨v1, vs1, d1, ds1, p1, q1, rfl, rfl, rfl, h1, r1⟩ := trodAll_cons r0
  obtain ⟨v2, vs2, d2, ds2, p2, q2, rfl, rfl, rfl, h2, r2⟩ := trodAll_cons r1
  obtain ⟨rfl, rfl, rfl⟩ := trodAll_nil r2
  obtain rfl : args = #[v0, v1, v2] := by cases args; simp_all
  obtain ⟨rfl, rfl⟩ := trodVars_none hV
  simp only [List.append_nil] at hW' hA0
  have hwt : (DataW.weightsEach Tryz.prog (Tryz.f4.params.toList ++ Rows.brokerPublishesSpec.plain.varTypes Tryz.prog) _).all _ = true := hwt0
  rw [Tryz.params4] at hwt
  have hw0 : ∀ n ∈ DataW.weights Tryz.prog 22 d0, n ≤ reachBytes := fun n hn => of_decide_eq_true (List.all_eq_true.1 hwt n (weightsEach_mem (i := 0) rfl rfl hn))
  obtain ⟨l, hr, hll, hin⟩ := open_rulesw (hval 0 22 v0 rfl rfl) h0 hw0
  obtain ⟨x, y, rfl⟩ := open_ids (hval 1 65 v1 rfl rfl) h1
  have hw2 : ∀ n ∈ DataW.weights Tryz.prog 46 d2, n ≤ reachBytes := fun n hn => of_decide_eq_true (List.all_eq_true.1 hwt n (weightsEach_mem (i := 2) rfl rfl hn))
  obtain ⟨es, av, q, rfl, hes, hq, hql, hqi⟩ := open_evw (hval 2 46 v2 rfl rfl) h2 hw2
  clear hval0
  refine (bpublishes_walk W (laid_refl hL hN) v0 l ⟨hr, fun r h => (hin r h).ok⟩ (le63 hll) (fun r h => (hin r h).rin) x y es av q hq (le63 hql) (le63 hes) (fun a ha => ⟨Nat.le_trans (hqi a ha).1 reach47, Nat.le_trans (hqi a ha).2.text reach47⟩)).mono fun e W' ⟨he, hg⟩ => ?_
  subst he
  exact ⟨_, rfl, post_same hW' hA0 (by kernel_rfl) rfl (fun _ _ _ => trodAll_cons_mk (shut_bool Tryz.underlying4 _) trodAll_mk0) (fun _ => rfl) (hg.below (fun _ _ h => h) (Nat.le_refl _))⟩
set_option maxRecDepth 100000 in
set_option maxHeartbeats 8000000 in
theorem closed : joinedFacts Tryz.prog 4 Tryz.f4 Rows.brokerPublishesSpec Rows.brokerPublishesRow = true := by
  unfold joinedFacts
  repeat' (with_reducible refine and2 ?_ ?_)
  all_goals (as_aux_lemma => kernel_rfl)
theorem over : Rows.brokerPublishesRow.holds Tryz.pinned (OpenSpec.ofChange Rows.brokerPublishesSpec) :=
  OpenClaim.holds_of_wide 4 Tryz.f4 rfl rfl rfl rfl rfl rfl rfl ⟨rfl, rfl, rfl, rfl, rfl⟩ rfl rfl rfl rfl rfl (by kernel_rfl) Tryz.func4 closed
    (of_decide_eq_true (by kernel_rfl)) (by unfold Func.isWrapper; first | (rw [if_pos (by decide +kernel)]; kernel_rfl) | (rw [if_neg (by decide +kernel)]; exact ⟨rfl, rfl⟩))
    (fun os started H enc _ => lifted os started H enc)
theorem proved : Rows.BrokerPublishesCardSaid :=
  Claim7.holds_tied_plain_at .later [] [.data, .data, .data, .data, .data, .data, .pinned, .pinned, .pinned, .pinned, .pinned, .pinned, .pinned, .pinned] true (true, "fbe25222eb1d0a81be0844de8631c5cf95b2c06bb8929746ec7bc7430b948997") false over (fun _ h => by cases h) (by kernel_rfl) (fun _ h => by cases h) brokerPublishes_row_tie rfl ⟨rfl, rfl⟩ (by kernel_rfl) rfl
    (fun f fn hf hfn => by
      obtain rfl : f = 4 := Option.some.inj ((show Tryz.prog.funcNamed "gazette/gazettelaw17.BrokerPublishes" = some 4 by kernel_rfl).symm.trans hf) |>.symm
      obtain rfl : fn = Tryz.f4 := (Option.some.inj (Tryz.func4.symm.trans hfn)).symm
      exact ⟨by kernel_rfl, fun j t ht => by
        have hall : (Tryz.f4.params.toList.all fun u => !Tryz.prog.wantsStandIn u) = true := by kernel_rfl
        have hm : t ∈ Tryz.f4.params.toList := Array.mem_toList_iff.2 (Array.mem_of_getElem? ht)
        exact (show Tryz.prog.wantsStandIn t = false by simpa using List.all_eq_true.1 hall t hm)⟩)
    (by kernel_rfl)
#print axioms proved
end Go.Proofs.YtaenebdppkjhoaaGreatDoor.brokerPublishes
