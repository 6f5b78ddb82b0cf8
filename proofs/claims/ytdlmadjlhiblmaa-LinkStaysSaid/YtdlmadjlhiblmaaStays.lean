/-
  LinkStays: the walk.
-/
import Derived.Test.YtdlmadjlhiblmaaDrain
import Derived.Deep.LoopGhost
namespace Go.Proofs.Ytdlmadjlhiblmaa
open Go.RowKit

theorem callFunc16 : ∀ (args : Array Value) (W : World), Sem.run Try.prog (callFunc 16 args) W = .ok (.enter 16 args) W := by
  intro args W
  go_simp
theorem callFunc18 : ∀ (args : Array Value) (W : World), Sem.run Try.prog (callFunc 18 args) W = .ok (.enter 18 args) W := by
  intro args W
  go_simp

theorem stays_ask (c : Nat) (k : Int) (m : LMsg) (hm : m.at_ = 0) (hk0 : 0 ≤ k) (hk1 : k ≤ 1000) (w : World) (hc : w.heap[c]? = some (.cells #[.int .i64 k] 3 (0, 0))) :
    Calls Try.prog 16 #[.agg m.cells.toArray, .pointer (some ⟨c, 0, none⟩)] w fun e w' => e = .returned (.bool false) ∧ w'.heap[c]? = some (.cells #[.int .i64 (k + 1)] 3 (0, 0)) ∧ Mod (fun k => k = c) w w' := by
  have k1 : m.cells[1]? = some (Value.int .i64 0) := by rw [← hm]; rfl
  have c0 : w.cell? ⟨c, 0, none⟩ = some (.int .i64 k) := cell_of hc rfl
  have f0 : w.frozen? ⟨c, 0, none⟩ = false := fr_of hc
  have hlt : c < w.heap.size := (Array.getElem?_eq_some_iff.1 hc).1
  have Hc := Lib.hid hc
  clear hc hm
  go_enter Try.func16, Try.ntmps16
  go_wp2
  go_ret
  exact ⟨rfl, heap_old (heap_set Hc.out), ((Mod.refl (fun k => k = c) w).setCell (fun _ => rfl) _).alloc _⟩

theorem stays_take (c : Nat) (k : Int) (m : LMsg) (hk : m.at_ = k) (hk0 : 0 ≤ k) (hk1 : k ≤ 1000) (w : World) (hc : w.heap[c]? = some (.cells #[.int .i64 k] 3 (0, 0))) :
    Calls Try.prog 18 #[.agg m.cells.toArray, .pointer (some ⟨c, 0, none⟩)] w fun e w' => e = .returned (.bool true) ∧ w'.heap[c]? = some (.cells #[.int .i64 (k + 1)] 3 (0, 0)) ∧ Mod (fun k => k = c) w w' := by
  have k1 : m.cells[1]? = some (Value.int .i64 k) := by rw [← hk]; rfl
  have c0 : w.cell? ⟨c, 0, none⟩ = some (.int .i64 k) := cell_of hc rfl
  have f0 : w.frozen? ⟨c, 0, none⟩ = false := fr_of hc
  have hlt : c < w.heap.size := (Array.getElem?_eq_some_iff.1 hc).1
  have Hc := Lib.hid hc
  clear hc hk
  go_enter Try.func18, Try.ntmps18
  go_wp2
  go_ret
  exact ⟨rfl, heap_old (heap_set Hc.out), ((Mod.refl (fun k => k = c) w).setCell (fun _ => rfl) _).alloc _⟩

set_option maxRecDepth 100000 in
set_option maxHeartbeats 2000000 in
theorem stays_walk (n tries : Int) (w : World) : Calls Try.prog 4 #[.int .i64 n, .int .i64 tries] w fun e w' => e = .returned (.bool true) ∧ Below w.heap.size w w' := by
  obtain ⟨N, hN, hN1, hN8⟩ : ∃ N : Nat, bits .and .i64 n 7 = (N : Int) - 1 ∧ 1 ≤ N ∧ N ≤ 8 := ⟨(n % 8).toNat + 1, by rw [i64_mask7]; omega, by omega, by omega⟩
  obtain ⟨M, hM, hM31⟩ : ∃ M : Nat, bits .and .i64 tries 31 = (M : Int) ∧ M ≤ 31 := ⟨(tries % 32).toNat, by rw [i64_mask31]; omega, by omega⟩
  have hN8' : (N : Int) ≤ 8 := by omega
  have hN1' : (1 : Int) ≤ N := by omega
  have hM31' : (M : Int) ≤ 31 := by omega
  go_enter Try.func4, Try.ntmps4
  go_wp2_with fail
  refine (fit_true w).mono ?_
  rintro e w1 ⟨rfl, hb1⟩
  have h0 := own_new w1
  have Hb1 := Lib.hid hb1
  have H0 := Lib.hid h0
  clear hb1 h0
  go_wp2_with fail
  go_loopw [17] (fun i wr => ∃ k : Nat, k ≤ N ∧ i = .int .i64 k ∧ Own w1 wr w1.heap.size ⟨0, msgs 1 (fun i => i) k, .wait, false, 0, 0⟩) (fun i _ => N - (intOf i).toNat)
  case atStart => exact ⟨0, Nat.zero_le _, rfl, H0.out⟩
  case round =>
    obtain ⟨k, hk, rfl, ho⟩ := hrel
    by_cases hlt : k < N
    · have hp := push_own w1 w1.heap.size _ (zmsg 1 k) _ ho (zmsg_ok (by decide) (by omega)) (by simp [msgs_length]; omega) (Nat.zero_le _)
      rw [zmsg_arr] at hp
      have Hp := Lib.hid hp
      have Ho := Lib.hid ho
      clear hp ho
      go_wp2_with fail
      refine Hp.out.mono ?_
      rintro e w2 (⟨-, rfl, ho2, -⟩ | ⟨⟨hk, -⟩, -⟩)
      rotate_left
      · simp [zmsg] at hk
      have ho3 : Own w1 w2 w1.heap.size ⟨0, msgs 1 (fun i => i) (k + 1), .wait, false, 0, 0⟩ := by rw [msgs_succ]; exact ho2
      have Ho3 := Lib.hid ho3
      clear ho2 ho3
      go_wp2
      go_roundw
      case rel => exact ⟨k + 1, by omega, by go_num, Ho3.out⟩
      case measure => simp [intOf]; omega
    · obtain rfl : k = N := by omega
      have ha : Own w1 wr w1.heap.size (at_ 0 1 (fun i => i) k 0 0) := ho
      have hs1 := step_quiet _ _ _ (.func (.func 14) #[] #[]) _ ha (at_0 hN1).1 (by simp [at_])
      rw [(at_0 hN1).2, at_some 0 hN1] at hs1
      have Hs1 := Lib.hid hs1
      have HN := Lib.hid hN
      have HM := Lib.hid hM
      clear ho ha hs1 hk hlt hN hM
      go_wp2_with fail
      refine Hs1.out.mono ?_
      rintro e w2 ⟨rfl, ho2, -⟩
      have Hf := Lib.hid (flight_own _ _ _ _ ho2)
      have Ho2 := Lib.hid ho2
      clear ho2
      go_wp2_with fail
      refine Hf.out.mono ?_
      rintro e w2' ⟨rfl, nq, rfl⟩
      obtain ⟨wo, hwo⟩ : ∃ wo : World, wo = w2.drewN nq := ⟨_, rfl⟩
      have ho3 := Ho2.out.drewN nq
      rw [← hwo] at ho3 ⊢
      have hwb : w1.heap.size ≤ wo.heap.size := ho3.below.size
      have ho4 : Own w1 (wo.alloc (.cells #[.int .i64 0] 3)) w1.heap.size (at_ 0 1 (fun i => i) k 0 1) := ho3.new ((Mod.refl _ _).alloc _)
      have hc4 : (wo.alloc (.cells #[.int .i64 0] 3)).heap[wo.heap.size]? = some (.cells #[.int .i64 0] 3 (0, 0)) := heap_alloc_new wo _
      have Hwo := Lib.hid hwo
      have Hwb := Lib.hid hwb
      have Ho4 := Lib.hid ho4
      have Hc4 := Lib.hid hc4
      clear hwo ho3 hwb ho4 hc4
      go_wp2_with fail
      go_loopw [31] (fun s wr2 => ∃ j : Nat, j ≤ M ∧ s = .int .i64 j ∧ Own w1 wr2 w1.heap.size (at_ 0 1 (fun i => i) k 0 1) ∧ wr2.heap[wo.heap.size]? = some (.cells #[.int .i64 j] 3 (0, 0)))
        (fun s _ => M - (intOf s).toNat)
      case atStart => exact ⟨0, by omega, rfl, Ho4.out, Hc4.out⟩
      case round =>
        obtain ⟨j, hj, rfl, ho, hc⟩ := hrel
        by_cases hjM : j < M
        · have hs := step_own w1 w1.heap.size wo.heap.size _ 16 _ _ wr ho hc Hwb.out (by simp [at_]) int_apart callFunc16 false #[.int .i64 ((j : Int) + 1)] (fun m hm _ w2 h2 => by
            rw [(at_1 hN1).1] at hm
            cases hm
            exact stays_ask _ j _ rfl (by omega) (by omega) w2 h2)
          have Hs := Lib.hid hs
          clear ho hc hs
          go_wp2_with fail
          refine Hs.out.mono ?_
          rintro e w3 (⟨hm, -⟩ | ⟨m, -, rfl, ho3, hc3⟩)
          · rw [(at_1 hN1).1] at hm; cases hm
          have Ho3 := Lib.hid ho3
          have Hc3 := Lib.hid hc3
          clear ho3 hc3
          go_wp2
          go_roundw
          case rel => exact ⟨j + 1, by omega, by go_num, Ho3.out, Hc3.out⟩
          case measure => simp [intOf]; omega
        · obtain rfl : j = M := by omega
          have c3 : wr.cell? ⟨wo.heap.size, 0, none⟩ = some (.int .i64 j) := cell_of hc rfl
          have Hl := Lib.hid (len_own _ _ _ _ ho)
          have Hf2 := Lib.hid (flight_own _ _ _ _ ho)
          have Ho5 := Lib.hid ho
          clear ho hc hj hjM
          go_wp2_with fail
          refine Hl.out.mono ?_
          rintro e w4 ⟨rfl, rfl⟩
          have hql : (at_ 0 1 (fun i => (i : Int)) k 0 1).q.length = k := by simp [at_, msgs_length]
          rw [hql]
          go_wp2_with fail
          refine Hf2.out.mono ?_
          rintro e w5 ⟨rfl, nq2, rfl⟩
          obtain ⟨wp, hwp⟩ : ∃ wp : World, wp = wr.drewN nq2 := ⟨_, rfl⟩
          have ho6 := Ho5.out.drewN nq2
          rw [← hwp] at ho6 ⊢
          have hwb2 : w1.heap.size ≤ wp.heap.size := ho6.below.size
          have ho7 : Own w1 (wp.alloc (.cells #[.int .i64 0] 3)) w1.heap.size (at_ 0 1 (fun i => i) k 0 1) := ho6.new ((Mod.refl _ _).alloc _)
          have hc7 : (wp.alloc (.cells #[.int .i64 0] 3)).heap[wp.heap.size]? = some (.cells #[.int .i64 0] 3 (0, 0)) := heap_alloc_new wp _
          have Hwp := Lib.hid hwp
          have Hwb2 := Lib.hid hwb2
          have Ho7 := Lib.hid ho7
          have Hc7 := Lib.hid hc7
          clear hwp ho6 hwb2 ho7 hc7 hql c3
          go_wp2_with fail
          go_loopg [48] (3 * k) (fun g s wx => ∃ i r : Nat, (i < k ∧ r ≤ 2 ∨ i = k ∧ r = 0) ∧ g + 3 * i + r = 3 * k + 1 ∧ Own w1 wx w1.heap.size (at_ 0 1 (fun i => i) k i r) ∧ wx.heap[wp.heap.size]? = some (.cells #[.int .i64 (takenOf i r : Nat)] 3 (0, 0)))
          case atStart => exact ⟨0, 1, by omega, by omega, Ho7.out, Hc7.out⟩
          case round =>
            obtain ⟨i, r, hir, hg, ho, hc⟩ := hrel
            rcases hir with ⟨hi, hr⟩ | ⟨rfl, rfl⟩
            · have hstep := drain_step w1 w1.heap.size wp.heap.size 0 1 (fun i => i) k i r hi hr (by omega) 18 callFunc18 wr ho hc Hwb2.out (fun w2 h2 => stays_take _ i _ rfl (by omega) (by omega) w2 h2)
              have Hst := Lib.hid hstep
              have Hg := Lib.hid hg
              clear hstep ho hc hg
              go_wp2_with fail
              refine Hst.out.mono ?_
              rintro e w3 ⟨rfl, i', r', hir', hs', ho', hc'⟩
              have Ho' := Lib.hid ho'
              have Hc' := Lib.hid hc'
              have Hs' := Lib.hid hs'
              clear ho' hc' hs'
              go_wp2
              go_roundg (gk - 1)
              case measure => have := Hg.out; omega
              case rel => exact ⟨i', r', hir', by have := Hg.out; have := Hs'.out; omega, Ho'.out, Hc'.out⟩
            · have hs := drain_end w1 w1.heap.size wp.heap.size 0 1 (fun i => i) i (by omega) (.func (.func 18) #[] #[.pointer (some ⟨wp.heap.size, 0, none⟩)]) wr ho hc
              have Hs := Lib.hid hs
              clear ho hc hs hg
              go_wp2_with fail
              refine Hs.out.mono ?_
              rintro e w3 ⟨rfl, ho, hc⟩
              have c3 : w3.cell? ⟨wp.heap.size, 0, none⟩ = some (.int .i64 i) := cell_of hc (by simp [takenOf])
              have hid := idle_own _ _ _ _ ho
              rw [at_end] at hid
              have Hid1 := Lib.hid hid
              have Hok := Lib.hid ho
              clear ho hc hid
              go_wp2_with fail
              refine Hid1.out.mono ?_
              rintro e w4 ⟨rfl, nq3, rfl⟩
              go_wp2
              go_ret
              exact ⟨rfl, Hb1.out.trans ((Hok.out.drewN nq3).below.mono Hb1.out.size)⟩
end Go.Proofs.Ytdlmadjlhiblmaa
