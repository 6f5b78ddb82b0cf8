/-
  LinkResets: the walk.
-/
import Derived.Test.YtdlmadjlhiblmaaDrain
import Derived.Deep.LoopGhost
namespace Go.Proofs.Ytdlmadjlhiblmaa
open Go.RowKit

theorem callFunc20 : ∀ (args : Array Value) (W : World), Sem.run Try.prog (callFunc 20 args) W = .ok (.enter 20 args) W := by
  intro args W
  go_simp
theorem callFunc23 : ∀ (args : Array Value) (W : World), Sem.run Try.prog (callFunc 23 args) W = .ok (.enter 23 args) W := by
  intro args W
  go_simp

theorem resets_take1 (c : Nat) (k : Int) (m : LMsg) (hk0 : 0 ≤ k) (hk1 : k ≤ 1000) (w : World) (hc : w.heap[c]? = some (.cells #[.int .i64 k] 3 (0, 0))) :
    Calls Try.prog 20 #[.agg m.cells.toArray, .pointer (some ⟨c, 0, none⟩)] w fun e w' => e = .returned (.bool true) ∧ w'.heap[c]? = some (.cells #[.int .i64 (k + 1)] 3 (0, 0)) ∧ Mod (fun k => k = c) w w' := by
  have c0 : w.cell? ⟨c, 0, none⟩ = some (.int .i64 k) := cell_of hc rfl
  have f0 : w.frozen? ⟨c, 0, none⟩ = false := fr_of hc
  have hlt : c < w.heap.size := (Array.getElem?_eq_some_iff.1 hc).1
  have Hc := Lib.hid hc
  clear hc
  go_enter Try.func20, Try.ntmps20
  go_wp2
  go_ret
  exact ⟨rfl, heap_old (heap_set Hc.out), ((Mod.refl (fun k => k = c) w).setCell (fun _ => rfl) _).alloc _⟩

theorem resets_take2 (c : Nat) (k : Int) (m : LMsg) (hk : m.at_ = 100 + k) (hk0 : 0 ≤ k) (hk1 : k ≤ 1000) (w : World) (hc : w.heap[c]? = some (.cells #[.int .i64 k] 3 (0, 0))) :
    Calls Try.prog 23 #[.agg m.cells.toArray, .pointer (some ⟨c, 0, none⟩)] w fun e w' => e = .returned (.bool true) ∧ w'.heap[c]? = some (.cells #[.int .i64 (k + 1)] 3 (0, 0)) ∧ Mod (fun k => k = c) w w' := by
  have k1 : m.cells[1]? = some (Value.int .i64 (100 + k)) := by rw [← hk]; rfl
  have c0 : w.cell? ⟨c, 0, none⟩ = some (.int .i64 k) := cell_of hc rfl
  have f0 : w.frozen? ⟨c, 0, none⟩ = false := fr_of hc
  have hlt : c < w.heap.size := (Array.getElem?_eq_some_iff.1 hc).1
  have Hc := Lib.hid hc
  clear hc hk
  go_enter Try.func23, Try.ntmps23
  go_wp2
  go_ret
  exact ⟨rfl, heap_old (heap_set Hc.out), ((Mod.refl (fun k => k = c) w).setCell (fun _ => rfl) _).alloc _⟩

set_option maxRecDepth 100000 in
set_option maxHeartbeats 2000000 in
theorem resets_walk (na nb ns : Int) (w : World) : Calls Try.prog 6 #[.int .i64 na, .int .i64 nb, .int .i64 ns] w fun e w' => e = .returned (.bool true) ∧ Below w.heap.size w w' := by
  obtain ⟨A, hA, hA15⟩ : ∃ A : Nat, bits .and .i64 na 15 = (A : Int) ∧ A ≤ 15 := ⟨(na % 16).toNat, by rw [i64_mask15]; omega, by omega⟩
  obtain ⟨B, hB, hB15⟩ : ∃ B : Nat, bits .and .i64 nb 15 = (B : Int) ∧ B ≤ 15 := ⟨(nb % 16).toNat, by rw [i64_mask15]; omega, by omega⟩
  obtain ⟨M, hM, hM63⟩ : ∃ M : Nat, bits .and .i64 ns 63 = (M : Int) ∧ M ≤ 63 := ⟨(ns % 64).toNat, by rw [i64_mask63]; omega, by omega⟩
  have hA15' : (A : Int) ≤ 15 := by omega
  have hB15' : (B : Int) ≤ 15 := by omega
  have hM63' : (M : Int) ≤ 63 := by omega
  go_enter Try.func6, Try.ntmps6
  go_wp2_with fail
  refine (fit_true w).mono ?_
  rintro e w1 ⟨rfl, hb1⟩
  have h0 := own_new w1
  have Hb1 := Lib.hid hb1
  have H0 := Lib.hid h0
  clear hb1 h0
  go_wp2_with fail
  go_loopw [21] (fun i wr => ∃ k : Nat, k ≤ A ∧ i = .int .i64 k ∧ Own w1 wr w1.heap.size ⟨0, msgs 1 (fun i => i) k, .wait, false, 0, 0⟩) (fun i _ => A - (intOf i).toNat)
  case atStart => exact ⟨0, Nat.zero_le _, rfl, H0.out⟩
  case round =>
    obtain ⟨k, hk, rfl, ho⟩ := hrel
    by_cases hlt : k < A
    · have hp := push_own w1 w1.heap.size _ (zmsg 1 k) _ ho (zmsg_ok (by decide) (by omega)) (by simp [msgs_length]; omega) (Nat.zero_le _)
      rw [zmsg_arr] at hp
      have Hp := Lib.hid hp
      have Ho := Lib.hid ho
      clear hp ho
      go_wp2_with fail
      refine Hp.out.mono ?_
      rintro e w2 (⟨-, rfl, ho2, -⟩ | ⟨⟨hk, -⟩, -⟩)
      rotate_left
      · simp [zmsg] at hk
      have ho3 : Own w1 w2 w1.heap.size ⟨0, msgs 1 (fun i => i) (k + 1), .wait, false, 0, 0⟩ := by rw [msgs_succ]; exact ho2
      have Ho3 := Lib.hid ho3
      clear ho2 ho3
      go_wp2
      go_roundw
      case rel => exact ⟨k + 1, by omega, by go_num, Ho3.out⟩
      case measure => simp [intOf]; omega
    · obtain rfl : k = A := by omega
      have ha : Own w1 wr w1.heap.size (at_ 0 1 (fun i => i) k 0 0) := ho
      obtain ⟨wo, hwo⟩ : ∃ wo : World, wo = wr := ⟨_, rfl⟩
      rw [← hwo] at ha ⊢
      have hwb : w1.heap.size ≤ wo.heap.size := ha.below.size
      have ho4 : Own w1 (wo.alloc (.cells #[.int .i64 0] 3)) w1.heap.size (at_ 0 1 (fun i => i) k 0 0) := ha.new ((Mod.refl _ _).alloc _)
      have hc4 : (wo.alloc (.cells #[.int .i64 0] 3)).heap[wo.heap.size]? = some (.cells #[.int .i64 0] 3 (0, 0)) := heap_alloc_new wo _
      have Hwo := Lib.hid hwo
      have Hwb := Lib.hid hwb
      have Ho4 := Lib.hid ho4
      have Hc4 := Lib.hid hc4
      have HB := Lib.hid hB
      have HM := Lib.hid hM
      clear hwo ha hwb ho4 hc4 ho hk hlt hA hB hM
      go_wp2_with fail
      go_loopw [29] (fun s wr2 => ∃ j : Nat, j ≤ M ∧ s = .int .i64 j ∧ ∃ i r : Nat, (i < k ∧ r ≤ 2 ∨ i = k ∧ r = 0) ∧ Own w1 wr2 w1.heap.size (at_ 0 1 (fun i => i) k i r) ∧ wr2.heap[wo.heap.size]? = some (.cells #[.int .i64 (takenOf i r : Nat)] 3 (0, 0)))
        (fun s _ => M - (intOf s).toNat)
      case atStart => exact ⟨0, by omega, rfl, 0, 0, by omega, Ho4.out, Hc4.out⟩
      case round =>
        obtain ⟨j, hj, rfl, i, r, hir, ho, hc⟩ := hrel
        by_cases hjM : j < M
        · have hstep : Calls Try.prog 10 #[.pointer (some ⟨w1.heap.size, 0, none⟩), .func (.func 20) #[] #[.pointer (some ⟨wo.heap.size, 0, none⟩)]] wr fun e w' =>
              ∃ i' r' : Nat, ∃ bb : Bool, e = .returned (.bool bb) ∧ (i' < k ∧ r' ≤ 2 ∨ i' = k ∧ r' = 0) ∧ Own w1 w' w1.heap.size (at_ 0 1 (fun i => i) k i' r') ∧ w'.heap[wo.heap.size]? = some (.cells #[.int .i64 (takenOf i' r' : Nat)] 3 (0, 0)) := by
            rcases hir with ⟨hi, hr⟩ | ⟨rfl, rfl⟩
            · exact (drain_step w1 w1.heap.size wo.heap.size 0 1 (fun i => i) k i r hi hr (by omega) 20 callFunc20 wr ho hc Hwb.out (fun w2 h2 => resets_take1 _ i _ (by omega) (by omega) w2 h2)).mono
                fun e w' ⟨h1, i', r', h2, _, h4, h5⟩ => ⟨i', r', _, h1, h2, h4, h5⟩
            · exact (drain_end w1 w1.heap.size wo.heap.size 0 1 (fun i => i) i (by omega) _ wr ho hc).mono
                fun e w' ⟨h1, h2, h3⟩ => ⟨i, 0, _, h1, .inr ⟨rfl, rfl⟩, h2, h3⟩
          have Hs := Lib.hid hstep
          clear ho hc hstep hir
          go_wp2_with fail
          refine Hs.out.mono ?_
          rintro e w3 ⟨i', r', bb, rfl, hir', ho3, hc3⟩
          have Ho3 := Lib.hid ho3
          have Hc3 := Lib.hid hc3
          clear ho3 hc3
          go_wp2
          go_roundw
          case rel => exact ⟨j + 1, by omega, by go_num, i', r', hir', Ho3.out, Hc3.out⟩
          case measure => simp [intOf]; omega
        · obtain rfl : j = M := by omega
          have htk : takenOf i r ≤ k := by unfold takenOf; split <;> omega
          obtain ⟨T, hT⟩ : ∃ T, takenOf i r = T := ⟨_, rfl⟩
          rw [hT] at hc htk
          have hTk' : (T : Int) ≤ k := by omega
          have hr := reset_own _ _ _ _ ho (by simp [at_])
          have Hr := Lib.hid hr
          have Hc := Lib.hid hc
          clear ho hc hj hjM hir hr hT
          go_wp2_with fail
          refine Hr.out.mono ?_
          rintro e w4 ⟨rfl, ho4, hk4⟩
          have hc4 := hk4 _ _ _ _ Hc.out int_apart
          have ho4' : Own w1 w4 w1.heap.size ⟨1, [], .wait, false, 0, 0⟩ := ho4
          have Hid := Lib.hid (idle_own _ _ _ _ ho4')
          have Ho5 := Lib.hid ho4'
          have Hc5 := Lib.hid hc4
          clear ho4 ho4' hc4 hk4
          go_wp2_with fail
          refine Hid.out.mono ?_
          rintro e w5 ⟨rfl, nq, rfl⟩
          obtain ⟨wp, hwp⟩ : ∃ wp : World, wp = w4.drewN nq := ⟨_, rfl⟩
          have ho6 := Ho5.out.drewN nq
          have hc6 : (w4.drewN nq).heap[wo.heap.size]? = some (.cells #[.int .i64 T] 3 (0, 0)) := ((Mod.refl (fun _ => False) w4).drewN nq).heap Hc5.out (by simp)
          rw [← hwp] at ho6 hc6 ⊢
          have Hep := Lib.hid (epoch_own _ _ _ _ ho6)
          have Hls := Lib.hid (lose_own _ _ _ _ ho6)
          have Hwp := Lib.hid hwp
          have Hc6 := Lib.hid hc6
          clear hwp ho6 hc6
          go_wp2_with fail
          refine Hep.out.mono ?_
          rintro e w6 ⟨rfl, rfl⟩
          go_wp2_with fail
          refine Hls.out.mono ?_
          rintro e w7 ⟨rfl, ho7, hk7⟩
          have hc7 := hk7 _ _ _ _ Hc6.out int_apart
          have ho7' : Own w1 w7 w1.heap.size ⟨1, [], .wait, false, 0, 0⟩ := ho7
          have c7 : w7.cell? ⟨wo.heap.size, 0, none⟩ = some (.int .i64 T) := cell_of hc7 rfl
          have Ho7 := Lib.hid ho7'
          clear ho7 ho7' hc7 hk7
          go_wp2_with fail
          rw [show decide (k < T) = false from decide_eq_false (by omega)]
          go_loopw [50] (fun i wr => ∃ k : Nat, k ≤ B ∧ i = .int .i64 k ∧ Own w1 wr w1.heap.size ⟨1, msgs 1 (fun i => 100 + i) k, .wait, false, 0, 0⟩) (fun i _ => B - (intOf i).toNat)
          case atStart => exact ⟨0, Nat.zero_le _, rfl, Ho7.out⟩
          case round =>
            obtain ⟨k2, hk, rfl, ho⟩ := hrel
            by_cases hlt : k2 < B
            · have hp := push_own w1 w1.heap.size _ (zmsg 1 (100 + k2)) _ ho (zmsg_ok (by decide) (by omega)) (by simp [msgs_length]; omega) (Nat.zero_le _)
              rw [zmsg_arr] at hp
              have Hp := Lib.hid hp
              have Ho := Lib.hid ho
              clear hp ho
              go_wp2_with fail
              refine Hp.out.mono ?_
              rintro e w2 (⟨-, rfl, ho2, -⟩ | ⟨⟨hk, -⟩, -⟩)
              rotate_left
              · simp [zmsg] at hk
              have ho3 : Own w1 w2 w1.heap.size ⟨1, msgs 1 (fun i => 100 + i) (k2 + 1), .wait, false, 0, 0⟩ := by rw [msgs_succ]; exact ho2
              have Ho3 := Lib.hid ho3
              clear ho2 ho3
              go_wp2
              go_roundw
              case rel => exact ⟨k2 + 1, by omega, by go_num, Ho3.out⟩
              case measure => simp [intOf]; omega
            · obtain rfl : k2 = B := by omega
              have ha : Own w1 wr w1.heap.size (at_ 1 1 (fun i => 100 + i) k2 0 0) := ho
              obtain ⟨wq, hwq⟩ : ∃ wq : World, wq = wr := ⟨_, rfl⟩
              rw [← hwq] at ha ⊢
              have hwb : w1.heap.size ≤ wq.heap.size := ha.below.size
              have ho8 : Own w1 (wq.alloc (.cells #[.int .i64 0] 3)) w1.heap.size (at_ 1 1 (fun i => 100 + i) k2 0 0) := ha.new ((Mod.refl _ _).alloc _)
              have hc8 : (wq.alloc (.cells #[.int .i64 0] 3)).heap[wq.heap.size]? = some (.cells #[.int .i64 0] 3 (0, 0)) := heap_alloc_new wq _
              have Hwq := Lib.hid hwq
              have Hwb2 := Lib.hid hwb
              have Ho8 := Lib.hid ho8
              have Hc8 := Lib.hid hc8
              clear hwq ha hwb ho8 hc8 ho hk hlt c7
              go_wp2_with fail
              go_loopg [58] (3 * k2 + 1) (fun g s wx => ∃ i r : Nat, (i < k2 ∧ r ≤ 2 ∨ i = k2 ∧ r = 0) ∧ g + 3 * i + r = 3 * k2 + 1 ∧ Own w1 wx w1.heap.size (at_ 1 1 (fun i => 100 + i) k2 i r) ∧ wx.heap[wq.heap.size]? = some (.cells #[.int .i64 (takenOf i r : Nat)] 3 (0, 0)))
              case atStart => exact ⟨0, 0, by omega, by omega, Ho8.out, Hc8.out⟩
              case round =>
                obtain ⟨i, r, hir, hg, ho, hc⟩ := hrel
                rcases hir with ⟨hi, hr⟩ | ⟨rfl, rfl⟩
                · have hstep := drain_step w1 w1.heap.size wq.heap.size 1 1 (fun i => 100 + i) k2 i r hi hr (by omega) 23 callFunc23 wr ho hc Hwb2.out (fun w2 h2 => resets_take2 _ i _ rfl (by omega) (by omega) w2 h2)
                  have Hst := Lib.hid hstep
                  have Hg := Lib.hid hg
                  clear hstep ho hc hg
                  go_wp2_with fail
                  refine Hst.out.mono ?_
                  rintro e w3 ⟨rfl, i', r', hir', hs', ho', hc'⟩
                  have Ho' := Lib.hid ho'
                  have Hc' := Lib.hid hc'
                  have Hs' := Lib.hid hs'
                  clear ho' hc' hs'
                  go_wp2
                  go_roundg (gk - 1)
                  case measure => have := Hg.out; omega
                  case rel => exact ⟨i', r', hir', by have := Hg.out; have := Hs'.out; omega, Ho'.out, Hc'.out⟩
                · have hs := drain_end w1 w1.heap.size wq.heap.size 1 1 (fun i => 100 + i) i (by omega) (.func (.func 23) #[] #[.pointer (some ⟨wq.heap.size, 0, none⟩)]) wr ho hc
                  have Hs := Lib.hid hs
                  clear ho hc hs hg
                  go_wp2_with fail
                  refine Hs.out.mono ?_
                  rintro e w3 ⟨rfl, ho, hc⟩
                  have c3 : w3.cell? ⟨wq.heap.size, 0, none⟩ = some (.int .i64 i) := cell_of hc (by simp [takenOf])
                  have hid := idle_own _ _ _ _ ho
                  rw [at_end] at hid
                  have Hid1 := Lib.hid hid
                  have Hok := Lib.hid ho
                  clear ho hc hid
                  go_wp2_with fail
                  refine Hid1.out.mono ?_
                  rintro e w4 ⟨rfl, nq3, rfl⟩
                  go_wp2
                  go_ret
                  exact ⟨rfl, Hb1.out.trans ((Hok.out.drewN nq3).below.mono Hb1.out.size)⟩
end Go.Proofs.Ytdlmadjlhiblmaa
