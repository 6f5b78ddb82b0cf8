/-
  A link of n messages that come one behind the other.
-/
import Derived.Test.YtdlmadjlhiblmaaFit
namespace Go.Proofs.Ytdlmadjlhiblmaa
open Go.RowKit

/-- n messages of a kind, numbered. -/
def msgs (k : Int) (f : Nat → Int) (n : Nat) : List LMsg := (List.range n).map fun i => zmsg k (f i)
theorem msgs_length (k : Int) (f : Nat → Int) (n : Nat) : (msgs k f n).length = n := by simp [msgs]
theorem msgs_succ (k : Int) (f : Nat → Int) (n : Nat) : msgs k f (n + 1) = msgs k f n ++ [zmsg k (f n)] := by simp [msgs, List.range_succ]
theorem msgs_drop (k : Int) (f : Nat → Int) {n i : Nat} (h : i < n) : (msgs k f n).drop i = zmsg k (f i) :: (msgs k f n).drop (i + 1) := by
  rw [List.drop_eq_getElem_cons (by rw [msgs_length]; exact h)]
  simp [msgs]

/-- Where a link of n messages is when i have come, and r steps of the next one are done. -/
def at_ (ep : Nat) (k : Int) (f : Nat → Int) (n i r : Nat) : LS := ⟨ep, (msgs k f n).drop i, if r = 0 then .wait else if r = 1 then .sent else .back, decide (r = 2), i, 0⟩

section
variable {ep : Nat} {k : Int} {f : Nat → Int} {n i : Nat}
theorem at_end : (at_ ep k f n n 0).q = [] := by simp [at_, List.drop_of_length_le, msgs_length]
theorem at_some (r : Nat) (h : i < n) : (at_ ep k f n i r).q = zmsg k (f i) :: (msgs k f n).drop (i + 1) := by simp [at_, msgs_drop k f h]
theorem at_0 (h : i < n) : (at_ ep k f n i 0).asks = none ∧ (at_ ep k f n i 0).next = at_ ep k f n i 1 := by simp [at_, LS.asks, LS.next, msgs_drop k f h]
theorem at_1 (h : i < n) : (at_ ep k f n i 1).asks = some (zmsg k (f i)) ∧ (at_ ep k f n i 1).next = at_ ep k f n i 2 := by simp [at_, LS.asks, LS.next, msgs_drop k f h]
theorem at_2 (h : i < n) : (at_ ep k f n i 2).asks = none ∧ (at_ ep k f n i 2).next = at_ ep k f n (i + 1) 0 := by simp [at_, LS.asks, LS.next, msgs_drop k f h]
theorem at_e : (at_ ep k f n n 0).asks = none ∧ (at_ ep k f n n 0).next = at_ ep k f n n 0 := by simp [at_, LS.asks, LS.next, List.drop_of_length_le, msgs_length]
end

/-- How many are taken. -/
def takenOf (i r : Nat) : Nat := i + if r = 2 then 1 else 0

/-- One step on the way. -/
theorem drain_step (w0 : World) (b c ep : Nat) (k : Int) (f : Nat → Int) (n i r : Nat) (hi : i < n) (hr : r ≤ 2) (hn : n ≤ 100000) (ft : Nat) (hcf : ∀ (args : Array Value) (W : World), Sem.run Try.prog (callFunc ft args) W = .ok (.enter ft args) W)
    (w : World) (ho : Own w0 w b (at_ ep k f n i r)) (hc : w.heap[c]? = some (.cells #[.int .i64 (takenOf i r : Nat)] 3 (0, 0))) (hcb : w0.heap.size ≤ c)
    (ht : ∀ w1, w1.heap[c]? = some (.cells #[.int .i64 i] 3 (0, 0)) → Calls Try.prog ft #[.agg (zmsg k (f i)).cells.toArray, .pointer (some ⟨c, 0, none⟩)] w1 fun e w2 => e = .returned (.bool true) ∧ w2.heap[c]? = some (.cells #[.int .i64 (i + 1)] 3 (0, 0)) ∧ Mod (fun k => k = c) w1 w2) :
    Calls Try.prog 10 #[.pointer (some ⟨b, 0, none⟩), .func (.func ft) #[] #[.pointer (some ⟨c, 0, none⟩)]] w fun e w' =>
      e = .returned (.bool true) ∧ ∃ i' r', (i' < n ∧ r' ≤ 2 ∨ i' = n ∧ r' = 0) ∧ 3 * i' + r' = 3 * i + r + 1 ∧ Own w0 w' b (at_ ep k f n i' r') ∧ w'.heap[c]? = some (.cells #[.int .i64 (takenOf i' r' : Nat)] 3 (0, 0)) := by
  have hq := at_some (ep := ep) (k := k) (f := f) r hi
  have hs := fun y ht => step_own w0 b c _ ft _ _ w ho hc hcb (by simp [at_]; omega) int_apart hcf true y ht
  match r, hr with
  | 0, _ =>
    refine (hs #[] (fun m hm => by rw [(at_0 hi).1] at hm; cases hm)).mono fun e w' h => ?_
    rcases h with ⟨-, h1, h2, h3⟩ | ⟨m, hm, -⟩
    · rw [(at_0 hi).2] at h2
      exact ⟨by rw [h1, hq]; rfl, i, 1, by omega, by omega, h2, h3⟩
    · rw [(at_0 hi).1] at hm; cases hm
  | 1, _ =>
    refine (hs #[.int .i64 ((i : Int) + 1)] (fun m hm _ w2 h2 => by
      rw [(at_1 hi).1] at hm
      cases hm
      exact ht w2 h2)).mono fun e w' h => ?_
    rcases h with ⟨h1, -⟩ | ⟨m, hm, h1, h2, h3⟩
    · rw [(at_1 hi).1] at h1; cases h1
    · rw [if_pos rfl, (at_1 hi).2] at h2
      exact ⟨h1, i, 2, by omega, by omega, h2, h3⟩
  | 2, _ =>
    refine (hs #[] (fun m hm => by rw [(at_2 hi).1] at hm; cases hm)).mono fun e w' h => ?_
    rcases h with ⟨-, h1, h2, h3⟩ | ⟨m, hm, -⟩
    · rw [(at_2 hi).2] at h2
      exact ⟨by rw [h1, hq]; rfl, i + 1, 0, by omega, by omega, h2, h3⟩
    · rw [(at_2 hi).1] at hm; cases hm

/-- The step behind the last one. -/
theorem drain_end (w0 : World) (b c ep : Nat) (k : Int) (f : Nat → Int) (n : Nat) (hn : n ≤ 100000) (tk : Value) (w : World) (ho : Own w0 w b (at_ ep k f n n 0)) {x : Array Value} (hc : w.heap[c]? = some (.cells x 3 (0, 0))) :
    Calls Try.prog 10 #[.pointer (some ⟨b, 0, none⟩), tk] w fun e w' => e = .returned (.bool false) ∧ Own w0 w' b (at_ ep k f n n 0) ∧ w'.heap[c]? = some (.cells x 3 (0, 0)) :=
  (step_quiet w0 b _ tk w ho at_e.1 (by simp [at_]; omega)).mono fun e w' ⟨h1, h2, h3⟩ => ⟨by rw [h1, at_end]; rfl, by rw [at_e.2] at h2; exact h2, h3 _ _ _ _ hc int_apart⟩
end Go.Proofs.Ytdlmadjlhiblmaa
