/-
  The anchor that stands at each statement's head.
-/
import Derived.Test.YtdlmadjlhiblmaaLinkm
namespace Go.Proofs.Ytdlmadjlhiblmaa
open Go.RowKit

/-- What every law hands on: new blocks alone. -/
theorem callFunc27 : ∀ (args : Array Value) (W : World), Sem.run Try.prog (callFunc 27 args) W = .ok (.enter 27 args) W := by
  intro args W
  go_simp

/-- fit's take: it keeps the message's place. -/
theorem fit_take (c : Nat) (v : Value) (m : LMsg) (w : World) (hc : w.heap[c]? = some (.cells #[v] 3 (0, 0))) :
    Calls Try.prog 27 #[.agg m.cells.toArray, .pointer (some ⟨c, 0, none⟩)] w fun e w' => e = .returned (.bool true) ∧ w'.heap[c]? = some (.cells #[.int .i64 m.at_] 3 (0, 0)) ∧ Mod (fun k => k = c) w w' := by
  have k1 : m.cells[1]? = some (Value.int .i64 m.at_) := rfl
  have c0 : w.cell? ⟨c, 0, none⟩ = some v := cell_of hc rfl
  have f0 : w.frozen? ⟨c, 0, none⟩ = false := fr_of hc
  have hlt : c < w.heap.size := (Array.getElem?_eq_some_iff.1 hc).1
  have Hc := Lib.hid hc
  clear hc
  go_enter Try.func27, Try.ntmps27
  go_wp2
  go_ret
  exact ⟨rfl, heap_old (heap_set Hc.out), ((Mod.refl (fun k => k = c) w).setCell (fun _ => rfl) _).alloc _⟩

theorem int_apart : 3 ≠ 27 ∧ 3 ≠ 38 ∧ 3 ≠ 55 ∧ 3 ≠ 53 := by decide

set_option maxHeartbeats 400000 in
theorem fit_true (w : World) : Calls Try.prog 8 #[] w fun e w' => e = .returned (.bool true) ∧ Below w.heap.size w w' := by
  have h0 := own_new w
  have hp := push_own w w.heap.size _ (zmsg 1 7) _ h0 (zmsg_ok (by decide) (by decide)) (by decide) (by decide)
  rw [zmsg_arr] at hp
  have H0 := Lib.hid h0
  have Hp := Lib.hid hp
  clear h0 hp
  go_enter Try.func8, Try.ntmps8
  go_wp2_with fail
  refine Hp.out.mono ?_
  rintro e w1 (⟨-, rfl, ho1, -⟩ | ⟨⟨hk, -⟩, -⟩)
  rotate_left
  · simp [zmsg] at hk
  have hw1 : w.heap.size < w1.heap.size := by
    obtain ⟨⟨F, hF, -⟩, -, -⟩ := ho1
    exact hF.lt
  have ho2 := ho1.new ((Mod.refl (fun _ => False) w1).alloc (.cells #[.int .i64 0] 3))
  have hc2 : (w1.alloc (.cells #[.int .i64 0] 3)).heap[w1.heap.size]? = some (.cells #[.int .i64 0] 3 (0, 0)) := heap_alloc_new w1 _
  have Hs1 := Lib.hid (step_own w w.heap.size w1.heap.size _ 27 _ _ _ ho2 hc2 (by omega) (by decide) int_apart callFunc27 true #[.int .i64 7] (fun m hm => by simp [LS.zero, LS.asks] at hm))
  clear ho1 ho2 hc2
  go_wp2_with fail
  refine Hs1.out.mono ?_
  rintro e w2 (⟨-, rfl, ho2, hc2⟩ | ⟨m, hm, -⟩)
  rotate_left
  · simp [LS.zero, LS.asks] at hm
  have Hs2 := Lib.hid (step_own w w.heap.size w1.heap.size _ 27 _ _ _ ho2 hc2 (by omega) (by decide) int_apart callFunc27 true #[.int .i64 7] (fun m hm _ w1 h1 => by
    obtain rfl : zmsg 1 7 = m := by simpa [LS.zero, LS.asks, LS.next] using hm
    exact fit_take _ _ _ w1 h1))
  clear ho2 hc2
  go_wp2_with fail
  refine Hs2.out.mono ?_
  rintro e w3 (⟨hm, -⟩ | ⟨m, -, rfl, ho3, hc3⟩)
  · simp [LS.zero, LS.asks, LS.next] at hm
  have Hs3 := Lib.hid (step_own w w.heap.size w1.heap.size _ 27 _ _ _ ho3 hc3 (by omega) (by decide) int_apart callFunc27 true #[.int .i64 7] (fun m hm => by simp [LS.zero, LS.asks, LS.next] at hm))
  clear ho3 hc3
  go_wp2_with fail
  refine Hs3.out.mono ?_
  rintro e w4 (⟨-, rfl, ho4, hc4⟩ | ⟨m, hm, -⟩)
  rotate_left
  · simp [LS.zero, LS.asks, LS.next] at hm
  have c4 : w4.cell? ⟨w1.heap.size, 0, none⟩ = some (.int .i64 7) := cell_of hc4 rfl
  have Hi := Lib.hid (idle_at ho4.at_.choose_spec.1 (by decide) (by decide))
  have Ho4 := Lib.hid ho4
  have Hc4 := Lib.hid hc4
  clear ho4 hc4
  go_wp2_with fail
  refine Hi.out.mono ?_
  rintro e w5 ⟨rfl, n, rfl⟩
  have Hs5 := Lib.hid (step_own w w.heap.size w1.heap.size _ 27 _ _ (w4.drewN n) (Ho4.out.new ((Mod.refl _ _).drewN n)) Hc4.out (by omega) (by decide) int_apart callFunc27 true #[.int .i64 7] (fun m hm => by simp [LS.zero, LS.asks, LS.next] at hm))
  go_wp2_with fail
  refine Hs5.out.mono ?_
  rintro e w6 (⟨-, rfl, ho6, -⟩ | ⟨m, hm, -⟩)
  rotate_left
  · simp [LS.zero, LS.asks, LS.next] at hm
  have Hb := Lib.hid ho6.below
  clear ho6
  go_wp2
  go_ret
  exact ⟨rfl, Hb.out⟩
end Go.Proofs.Ytdlmadjlhiblmaa
