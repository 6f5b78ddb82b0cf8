/-
  LinkOnce: the walk.
-/
import Derived.Test.YtdlmadjlhiblmaaFit
namespace Go.Proofs.Ytdlmadjlhiblmaa
open Go.RowKit

theorem callFunc11 : ∀ (args : Array Value) (W : World), Sem.run Try.prog (callFunc 11 args) W = .ok (.enter 11 args) W := by
  intro args W
  go_simp

theorem once_take (c : Nat) (k : Int) (m : LMsg) (hk : m.at_ = k) (hk0 : 0 ≤ k) (hk1 : k ≤ 1000) (w : World) (hc : w.heap[c]? = some (.cells #[.int .i64 k] 3 (0, 0))) :
    Calls Try.prog 11 #[.agg m.cells.toArray, .pointer (some ⟨c, 0, none⟩)] w fun e w' => e = .returned (.bool true) ∧ w'.heap[c]? = some (.cells #[.int .i64 (k + 1)] 3 (0, 0)) ∧ Mod (fun k => k = c) w w' := by
  have k1 : m.cells[1]? = some (Value.int .i64 k) := by rw [← hk]; rfl
  have c0 : w.cell? ⟨c, 0, none⟩ = some (.int .i64 k) := cell_of hc rfl
  have f0 : w.frozen? ⟨c, 0, none⟩ = false := fr_of hc
  have hlt : c < w.heap.size := (Array.getElem?_eq_some_iff.1 hc).1
  have Hc := Lib.hid hc
  clear hc hk
  go_enter Try.func11, Try.ntmps11
  go_wp2
  go_ret
  exact ⟨rfl, heap_old (heap_set Hc.out), ((Mod.refl (fun k => k = c) w).setCell (fun _ => rfl) _).alloc _⟩

/-- n messages of a kind, numbered. -/
def msgs (k : Int) (f : Nat → Int) (n : Nat) : List LMsg := (List.range n).map fun i => zmsg k (f i)
theorem msgs_length (k : Int) (f : Nat → Int) (n : Nat) : (msgs k f n).length = n := by simp [msgs]
theorem msgs_succ (k : Int) (f : Nat → Int) (n : Nat) : msgs k f (n + 1) = msgs k f n ++ [zmsg k (f n)] := by simp [msgs, List.range_succ]
theorem msgs_drop (k : Int) (f : Nat → Int) {n i : Nat} (h : i < n) : (msgs k f n).drop i = zmsg k (f i) :: (msgs k f n).drop (i + 1) := by
  rw [List.drop_eq_getElem_cons (by rw [msgs_length]; exact h)]
  simp [msgs]

/-- Where a link of n messages is when i have come, and r steps of the next one are done. -/
def at_ (k : Int) (f : Nat → Int) (n i r : Nat) : LS := ⟨0, (msgs k f n).drop i, if r = 0 then .wait else if r = 1 then .sent else .back, decide (r = 2), i, 0⟩

theorem at_end (k : Int) (f : Nat → Int) (n : Nat) : (at_ k f n n 0).q = [] := by simp [at_, List.drop_of_length_le, msgs_length]
theorem at_some (k : Int) (f : Nat → Int) {n i : Nat} (r : Nat) (h : i < n) : (at_ k f n i r).q = zmsg k (f i) :: (msgs k f n).drop (i + 1) := by simp [at_, msgs_drop k f h]

theorem at_0 (k : Int) (f : Nat → Int) {n i : Nat} (h : i < n) : (at_ k f n i 0).asks = none ∧ (at_ k f n i 0).next = at_ k f n i 1 := by
  simp [at_, LS.asks, LS.next, msgs_drop k f h]
theorem at_1 (k : Int) (f : Nat → Int) {n i : Nat} (h : i < n) : (at_ k f n i 1).asks = some (zmsg k (f i)) ∧ (at_ k f n i 1).next = at_ k f n i 2 := by
  simp [at_, LS.asks, LS.next, msgs_drop k f h]
theorem at_2 (k : Int) (f : Nat → Int) {n i : Nat} (h : i < n) : (at_ k f n i 2).asks = none ∧ (at_ k f n i 2).next = at_ k f n (i + 1) 0 := by
  simp [at_, LS.asks, LS.next, msgs_drop k f h]
theorem at_e (k : Int) (f : Nat → Int) (n : Nat) : (at_ k f n n 0).asks = none ∧ (at_ k f n n 0).next = at_ k f n n 0 := by
  simp [at_, LS.asks, LS.next, List.drop_of_length_le, msgs_length]

set_option maxRecDepth 100000 in
set_option maxHeartbeats 1000000 in
theorem once_walk (n : Int) (w : World) : Calls Try.prog 3 #[.int .i64 n] w fun e w' => e = .returned (.bool true) ∧ Below w.heap.size w w' := by
  obtain ⟨N, hN, hN63⟩ : ∃ N : Nat, bits .and .i64 n 63 = (N : Int) ∧ N ≤ 63 := ⟨(n % 64).toNat, by rw [i64_mask63]; omega, by omega⟩
  have hN63' : (N : Int) ≤ 63 := by omega
  go_enter Try.func3, Try.ntmps3
  go_wp2_with fail
  refine (fit_true w).mono ?_
  rintro e w1 ⟨rfl, hb1⟩
  have h0 := own_new w1
  have Hb1 := Lib.hid hb1
  have H0 := Lib.hid h0
  clear hb1 h0
  go_wp2_with fail
  go_loopw [12] (fun i wr => ∃ k : Nat, k ≤ N ∧ i = .int .i64 k ∧ Own w1 wr w1.heap.size ⟨0, msgs 2 (fun i => i) k, .wait, false, 0, 0⟩) (fun i _ => N - (intOf i).toNat)
  case atStart => exact ⟨0, Nat.zero_le _, rfl, H0.out⟩
  case round =>
    obtain ⟨k, hk, rfl, ho⟩ := hrel
    by_cases hlt : k < N
    · have hp := push_own w1 w1.heap.size _ (zmsg 2 k) _ ho (zmsg_ok (by decide) (by omega)) (by simp [msgs_length]; omega) (Nat.zero_le _)
      rw [zmsg_arr] at hp
      have Hp := Lib.hid hp
      have Ho := Lib.hid ho
      clear hp ho
      go_wp2_with fail
      refine Hp.out.mono ?_
      rintro e w2 (⟨-, rfl, ho2, -⟩ | ⟨⟨hk, -⟩, -⟩)
      rotate_left
      · simp [zmsg] at hk
      have ho3 : Own w1 w2 w1.heap.size ⟨0, msgs 2 (fun i => i) (k + 1), .wait, false, 0, 0⟩ := by rw [msgs_succ]; exact ho2
      have Ho3 := Lib.hid ho3
      clear ho2 ho3
      go_wp2
      go_roundw
      case rel => exact ⟨k + 1, by omega, by go_num, Ho3.out⟩
      case measure => simp [intOf]; omega
    · obtain rfl : k = N := by omega
      have Ho := Lib.hid ho
      clear ho
      clear hk hlt
      obtain ⟨wo, rfl⟩ : ∃ wo : World, wo = wr := ⟨_, rfl⟩
      have ho2 : Own w1 (wo.alloc (.cells #[.int .i64 0] 3)) w1.heap.size (at_ 2 (fun i => i) k 0 0) := Ho.out.new ((Mod.refl _ _).alloc _)
      have hc2 : (wo.alloc (.cells #[.int .i64 0] 3)).heap[wo.heap.size]? = some (.cells #[.int .i64 0] 3 (0, 0)) := heap_alloc_new wo _
      have hwb : w1.heap.size ≤ wo.heap.size := Ho.out.below.size
      have Ho2 := Lib.hid ho2
      have Hc2 := Lib.hid hc2
      have HN := Lib.hid hN
      have Hwb := Lib.hid hwb
      clear ho2 hc2 hN hwb
      go_wp2_with fail
      go_loopw [6] (fun s wr2 => ∃ i r : Nat, (i < k ∧ r ≤ 2 ∨ i = k ∧ r = 0) ∧ s = .int .i64 ((3 * i + r : Nat) : Int) ∧ Own w1 wr2 w1.heap.size (at_ 2 (fun i => i) k i r) ∧ wr2.heap[wo.heap.size]? = some (.cells #[.int .i64 ((i + (if r = 2 then 1 else 0) : Nat) : Int)] 3 (0, 0)))
        (fun s _ => 3 * k + 1 - (intOf s).toNat)
      case atStart => exact ⟨0, 0, by omega, rfl, Ho2.out, Hc2.out⟩
      case round =>
        obtain ⟨i, r, hir, rfl, ho, hc⟩ := hrel
        rcases hir with ⟨hi, hr⟩ | ⟨rfl, rfl⟩
        · have hstep : Calls Try.prog 10 #[.pointer (some ⟨w1.heap.size, 0, none⟩), .func (.func 11) #[] #[.pointer (some ⟨wo.heap.size, 0, none⟩)]] wr fun e w' =>
              e = .returned (.bool true) ∧ ∃ i' r', (i' < k ∧ r' ≤ 2 ∨ i' = k ∧ r' = 0) ∧ 3 * i' + r' = 3 * i + r + 1 ∧ Own w1 w' w1.heap.size (at_ 2 (fun i => i) k i' r') ∧ w'.heap[wo.heap.size]? = some (.cells #[.int .i64 ((i' + (if r' = 2 then 1 else 0) : Nat) : Int)] 3 (0, 0)) := by
            have hq := at_some 2 (fun i => (i : Int)) r hi
            have hs := fun y ht => step_own w1 w1.heap.size wo.heap.size _ 11 _ _ wr ho hc Hwb.out (by simp [at_]; omega) int_apart callFunc11 true y ht
            match r, hr with
            | 0, _ =>
              refine (hs #[] (fun m hm => by rw [(at_0 2 _ hi).1] at hm; cases hm)).mono fun e w' h => ?_
              rcases h with ⟨-, h1, h2, h3⟩ | ⟨m, hm, -⟩
              · rw [(at_0 2 _ hi).2] at h2
                exact ⟨by rw [h1, hq]; rfl, i, 1, by omega, by omega, h2, h3⟩
              · rw [(at_0 2 _ hi).1] at hm; cases hm
            | 1, _ =>
              refine (hs #[.int .i64 ((i : Int) + 1)] (fun m hm _ w2 h2 => by
                rw [(at_1 2 _ hi).1] at hm
                cases hm
                exact once_take _ i _ rfl (by omega) (by omega) w2 h2)).mono fun e w' h => ?_
              rcases h with ⟨h1, -⟩ | ⟨m, hm, h1, h2, h3⟩
              · rw [(at_1 2 _ hi).1] at h1; cases h1
              · rw [if_pos rfl, (at_1 2 _ hi).2] at h2
                exact ⟨h1, i, 2, by omega, by omega, h2, h3⟩
            | 2, _ =>
              refine (hs #[] (fun m hm => by rw [(at_2 2 _ hi).1] at hm; cases hm)).mono fun e w' h => ?_
              rcases h with ⟨-, h1, h2, h3⟩ | ⟨m, hm, -⟩
              · rw [(at_2 2 _ hi).2] at h2
                exact ⟨by rw [h1, hq]; rfl, i + 1, 0, by omega, by omega, h2, h3⟩
              · rw [(at_2 2 _ hi).1] at hm; cases hm
          have Hst := Lib.hid hstep
          have hbd : ((3 * i + r : Nat) : Int) ≤ 200 := by omega
          have hbd0 : (0 : Int) ≤ ((3 * i + r : Nat) : Int) := by omega
          obtain ⟨s, hs⟩ : ∃ s : Nat, s = 3 * i + r := ⟨_, rfl⟩
          rw [← hs] at hbd hbd0 ⊢
          have Hs := Lib.hid hs
          clear hstep ho hc hs
          go_wp2_with fail
          refine Hst.out.mono ?_
          rintro e w3 ⟨rfl, i', r', hir', hs', ho', hc'⟩
          have Ho' := Lib.hid ho'
          have Hc' := Lib.hid hc'
          have Hs' := Lib.hid hs'
          clear ho' hc' hs'
          go_wp2
          go_roundw
          case rel => exact ⟨i', r', hir', by rw [Hs'.out, ← Hs.out]; go_num, Ho'.out, Hc'.out⟩
          case measure => have := Hs.out; simp [intOf]; omega
        · have hs := step_own w1 w1.heap.size wo.heap.size _ 11 _ _ wr ho hc Hwb.out (by simp [at_]; omega) int_apart callFunc11 true #[] (fun m hm => by rw [(at_e 2 _ i).1] at hm; cases hm)
          have Hs := Lib.hid hs
          clear ho hc hs
          go_wp2_with fail
          refine Hs.out.mono ?_
          rintro e w3 (⟨-, rfl, ho, hc⟩ | ⟨m, hm, -⟩)
          rotate_left
          · rw [(at_e 2 _ i).1] at hm; cases hm
          rw [(at_e 2 _ i).2] at ho
          rw [at_end]
          have c3 : w3.cell? ⟨wo.heap.size, 0, none⟩ = some (.int .i64 i) := cell_of hc (by simp)
          have hid := idle_at ho.at_.choose_spec.1 (by simp [at_, LS.toL]) (by simp [at_, LS.toL])
          have hqe : ((at_ 2 (fun i => (i : Int)) i i 0).toL.out.isEmpty && ((at_ 2 (fun i => (i : Int)) i i 0).toL.flight.isEmpty && (at_ 2 (fun i => (i : Int)) i i 0).toL.acks.isEmpty)) = true := by
            simp [at_, LS.toL, List.drop_of_length_le, msgs_length]
          rw [hqe] at hid
          have Hid1 := Lib.hid hid
          have Hok := Lib.hid ho
          have HN2 := HN.out
          clear ho hc hid hqe
          go_wp2_with fail
          refine Hid1.out.mono ?_
          rintro e w4 ⟨rfl, nq, rfl⟩
          have Hl := Lib.hid (lost_at (Hok.out.new ((Mod.refl _ w3).drewN nq)).at_.choose_spec.1)
          go_wp2_with fail
          refine Hl.out.mono ?_
          rintro e w5 ⟨rfl, rfl⟩
          go_wp2
          go_ret
          exact ⟨rfl, Hb1.out.trans ((Hok.out.new ((Mod.refl _ w3).drewN nq)).below.mono Hb1.out.size)⟩
end Go.Proofs.Ytdlmadjlhiblmaa
