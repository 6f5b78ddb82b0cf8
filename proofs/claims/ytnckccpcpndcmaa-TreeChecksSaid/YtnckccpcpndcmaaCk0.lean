/-
  A matrix of neighbours, what is reached in it, and the roots that New keeps. Plain Lean.
-/
import Derived.Test.YtnckccpcpndcmaaTr0
namespace Go.Proofs.Ytnckccpcpndcmaa

/-- The matrix's place. -/
def mg (M : List Bool) (i j : Nat) : Bool := M.getD (6 * i + j) false
def ckStep (M : List Bool) (i : Nat) (s : List Bool) (j : Nat) : List Bool := s.set j (s.getD j false || (s.getD i false && mg M i j))
def ckIn (M : List Bool) (i : Nat) (s : List Bool) (k : Nat) : List Bool := (List.range k).foldl (ckStep M i) s
def ckMid (M : List Bool) (s : List Bool) (k : Nat) : List Bool := (List.range k).foldl (fun s i => ckIn M i s 6) s
def ckOut (M : List Bool) (s : List Bool) (k : Nat) : List Bool := (List.range k).foldl (fun s _ => ckMid M s 6) s
def ckStart (a : Nat) : List Bool := (List.replicate 6 false).set a true
def ckReach (M : List Bool) (a b : Nat) : Bool := (ckOut M (ckStart a) 6).getD b false
theorem ckIn_next (M : List Bool) (i : Nat) (s : List Bool) (k : Nat) : ckIn M i s (k + 1) = ckStep M i (ckIn M i s k) k := by simp only [ckIn, List.range_succ, List.foldl_append, List.foldl_cons, List.foldl_nil]
theorem ckMid_next (M : List Bool) (s : List Bool) (k : Nat) : ckMid M s (k + 1) = ckIn M k (ckMid M s k) 6 := by simp only [ckMid, List.range_succ, List.foldl_append, List.foldl_cons, List.foldl_nil]
theorem ckOut_next (M : List Bool) (s : List Bool) (k : Nat) : ckOut M s (k + 1) = ckMid M (ckOut M s k) 6 := by simp only [ckOut, List.range_succ, List.foldl_append, List.foldl_cons, List.foldl_nil]
theorem ckStep_length (M : List Bool) (i : Nat) (s : List Bool) (j : Nat) : (ckStep M i s j).length = s.length := by simp [ckStep]
theorem ckIn_length (M : List Bool) (i : Nat) (s : List Bool) : ∀ k, (ckIn M i s k).length = s.length
  | 0 => rfl
  | k + 1 => by rw [ckIn_next, ckStep_length, ckIn_length M i s k]
theorem ckMid_length (M : List Bool) (s : List Bool) : ∀ k, (ckMid M s k).length = s.length
  | 0 => rfl
  | k + 1 => by rw [ckMid_next, ckIn_length, ckMid_length M s k]
theorem ckOut_length (M : List Bool) (s : List Bool) : ∀ k, (ckOut M s k).length = s.length
  | 0 => rfl
  | k + 1 => by rw [ckOut_next, ckMid_length, ckOut_length M s k]

/-- Place by place no less. -/
def ckLe (s t : List Bool) : Prop := s.length = t.length ∧ ∀ j, s.getD j false = true → t.getD j false = true
theorem ckLe.refl (s : List Bool) : ckLe s s := ⟨rfl, fun _ h => h⟩
theorem ckLe.trans {s t u : List Bool} (h : ckLe s t) (k : ckLe t u) : ckLe s u := ⟨h.1.trans k.1, fun j hj => k.2 j (h.2 j hj)⟩
theorem ck_getD_set (s : List Bool) (i j : Nat) (v : Bool) : (s.set i v).getD j false = if i = j ∧ j < s.length then v else s.getD j false := by
  simp only [List.getD, List.getElem?_set]
  by_cases h : i = j
  · subst h
    by_cases h2 : i < s.length
    · simp [h2]
    · simp [h2]
  · simp [h]
theorem ck_ext {s t : List Bool} (hl : s.length = t.length) (h : ∀ j, s.getD j false = t.getD j false) : s = t := by
  apply List.ext_getElem hl
  intro j h1 h2
  have := h j
  simpa [List.getD, h1, h2] using this
theorem ckLe.antisymm {s t : List Bool} (h : ckLe s t) (k : ckLe t s) : s = t := ck_ext h.1 fun j => by
  cases h1 : s.getD j false <;> cases h2 : t.getD j false
  · rfl
  · exact absurd (k.2 j h2) (by rw [h1]; decide)
  · exact absurd (h.2 j h1) (by rw [h2]; decide)
  · rfl
theorem ckStep_le (M : List Bool) (i : Nat) (s : List Bool) (j : Nat) : ckLe s (ckStep M i s j) := ⟨(ckStep_length M i s j).symm, fun k hk => by
  unfold ckStep
  rw [ck_getD_set]
  split
  · rename_i h; rw [h.1, hk]; rfl
  · exact hk⟩
theorem ckIn_le (M : List Bool) (i : Nat) (s : List Bool) : ∀ k, ckLe s (ckIn M i s k)
  | 0 => ckLe.refl s
  | k + 1 => by rw [ckIn_next]; exact (ckIn_le M i s k).trans (ckStep_le M i _ k)
theorem ckMid_le (M : List Bool) (s : List Bool) : ∀ k, ckLe s (ckMid M s k)
  | 0 => ckLe.refl s
  | k + 1 => by rw [ckMid_next]; exact (ckMid_le M s k).trans (ckIn_le M k _ 6)
theorem ckOut_le (M : List Bool) (s : List Bool) : ∀ k, ckLe s (ckOut M s k)
  | 0 => ckLe.refl s
  | k + 1 => by rw [ckOut_next]; exact (ckOut_le M s k).trans (ckMid_le M _ 6)
theorem ckIn_mono (M : List Bool) (i : Nat) (s : List Bool) : ∀ {k m : Nat}, k ≤ m → ckLe (ckIn M i s k) (ckIn M i s m)
  | k, 0, h => by rw [Nat.le_zero.1 h]; exact ckLe.refl _
  | k, m + 1, h => by
    rcases Nat.lt_or_eq_of_le h with h | h
    · rw [ckIn_next]; exact (ckIn_mono M i s (Nat.le_of_lt_succ h)).trans (ckStep_le M i _ m)
    · rw [h]; exact ckLe.refl _
theorem ckMid_mono (M : List Bool) (s : List Bool) : ∀ {k m : Nat}, k ≤ m → ckLe (ckMid M s k) (ckMid M s m)
  | k, 0, h => by rw [Nat.le_zero.1 h]; exact ckLe.refl _
  | k, m + 1, h => by
    rcases Nat.lt_or_eq_of_le h with h | h
    · rw [ckMid_next]; exact (ckMid_mono M s (Nat.le_of_lt_succ h)).trans (ckIn_le M m _ 6)
    · rw [h]; exact ckLe.refl _
/-- A round that changes nothing: what is reached is closed. -/
theorem closed_of_fix {M s : List Bool} (hs : s.length = 6) (h : ckMid M s 6 = s) {i j : Nat} (hi : i < 6) (hj : j < 6) (h1 : s.getD i false = true) (h2 : mg M i j = true) : s.getD j false = true := by
  have e1 : ckLe s (ckIn M i (ckMid M s i) j) := (ckMid_le M s i).trans (ckIn_le M i _ j)
  have e3 : ckLe (ckIn M i (ckMid M s i) 6) (ckMid M s 6) := by rw [← ckMid_next]; exact ckMid_mono M s (show i + 1 ≤ 6 by omega)
  have e4 := (ckIn_mono M i (ckMid M s i) (show j + 1 ≤ 6 by omega)).trans e3
  rw [h] at e4
  have e2 : ckLe (ckIn M i (ckMid M s i) (j + 1)) s := e4
  refine e2.2 j ?_
  rw [ckIn_next]
  unfold ckStep
  rw [ck_getD_set, if_pos ⟨rfl, by rw [← e1.1]; omega⟩, e1.2 i h1, h2]
  simp
theorem ck_count : ∀ {s t : List Bool}, s.length = t.length → (∀ j, s.getD j false = true → t.getD j false = true) → s ≠ t → s.count true < t.count true
  | [], [], _, _, h => absurd rfl h
  | a :: s, b :: t, hl, h, hne => by
    have hl' : s.length = t.length := by simpa using hl
    have h' : ∀ j, s.getD j false = true → t.getD j false = true := fun j hj => by
      have := h (j + 1); simp only [List.getD_cons_succ] at this; exact this hj
    have h0 : a = true → b = true := fun e => by have := h 0; simp only [List.getD_cons_zero] at this; exact this e
    by_cases hst : s = t
    · subst hst
      cases a <;> cases b <;> simp_all
    · have := ck_count hl' h' hst
      cases a <;> cases b <;> simp_all <;> omega
theorem ck_fix_or (M : List Bool) (s : List Bool) (hs : 1 ≤ s.count true) : ∀ k, ckMid M (ckOut M s k) 6 = ckOut M s k ∨ k + 1 ≤ (ckOut M s k).count true
  | 0 => .inr hs
  | k + 1 => by
    rw [ckOut_next]
    rcases ck_fix_or M s hs k with h | h
    · rw [h]; exact .inl h
    · by_cases hq : ckOut M s k = ckMid M (ckOut M s k) 6
      · rw [← hq]; exact .inl hq.symm
      · have hle := ckMid_le M (ckOut M s k) 6
        have := ck_count hle.1 hle.2 hq
        exact .inr (by omega)
theorem ck_start_length (a : Nat) : (ckStart a).length = 6 := by simp [ckStart]
theorem ck_start_at {a : Nat} (ha : a < 6) (x : Nat) : (ckStart a).getD x false = decide (x = a) := by
  unfold ckStart
  rw [ck_getD_set]
  by_cases h : a = x
  · subst h; simp [ha]
  · rw [if_neg (fun q => h q.1)]
    have : ¬ x = a := fun e => h e.symm
    simp only [this, decide_false, List.getD, List.getElem?_replicate]
    split <;> rfl
theorem ck_out_fix (M : List Bool) {a : Nat} (ha : a < 6) : ckMid M (ckOut M (ckStart a) 6) 6 = ckOut M (ckStart a) 6 := by
  have h1 : 1 ≤ (ckStart a).count true := List.one_le_count_iff.2 (by
    have := ck_start_at ha a
    rw [decide_eq_true rfl] at this
    have hl : a < (ckStart a).length := by rw [ck_start_length]; exact ha
    simp only [List.getD, List.getElem?_eq_getElem hl, Option.getD_some] at this
    exact this ▸ List.getElem_mem hl)
  rcases ck_fix_or M (ckStart a) h1 6 with h | h
  · exact h
  · have := List.count_le_length (a := true) (l := ckOut M (ckStart a) 6)
    rw [ckOut_length, ck_start_length] at this
    omega
/-- What is reached from a lies in each set that is closed and has a. -/
theorem ck_in_sound {M : List Bool} {C : Nat → Prop} (hC : ∀ i j, i < 6 → j < 6 → C i → mg M i j = true → C j) {i : Nat} (hi : i < 6) : ∀ (k : Nat) (s : List Bool), k ≤ 6 → (∀ j, s.getD j false = true → C j) → ∀ j, (ckIn M i s k).getD j false = true → C j
  | 0, s, _, h => h
  | k + 1, s, hk, h => fun j hj => by
    rw [ckIn_next] at hj
    unfold ckStep at hj
    rw [ck_getD_set] at hj
    have ih := ck_in_sound hC hi k s (by omega) h
    split at hj
    · rename_i hq
      rw [Bool.or_eq_true, Bool.and_eq_true] at hj
      rcases hj with hj | ⟨h1, h2⟩
      · exact hq.1 ▸ ih _ hj
      · exact hq.1 ▸ hC i k hi (by omega) (ih _ h1) h2
    · exact ih j hj
theorem mid_sound {M : List Bool} {C : Nat → Prop} (hC : ∀ i j, i < 6 → j < 6 → C i → mg M i j = true → C j) : ∀ (k : Nat) (s : List Bool), k ≤ 6 → (∀ j, s.getD j false = true → C j) → ∀ j, (ckMid M s k).getD j false = true → C j
  | 0, _, _, h => h
  | k + 1, s, hk, h => by rw [ckMid_next]; exact ck_in_sound hC (by omega) 6 _ (by omega) (mid_sound hC k s (by omega) h)
theorem out_sound {M : List Bool} {C : Nat → Prop} (hC : ∀ i j, i < 6 → j < 6 → C i → mg M i j = true → C j) : ∀ (k : Nat) (s : List Bool), (∀ j, s.getD j false = true → C j) → ∀ j, (ckOut M s k).getD j false = true → C j
  | 0, _, h => h
  | k + 1, s, h => by rw [ckOut_next]; exact mid_sound hC 6 _ (by omega) (out_sound hC k s h)
theorem reach_self (M : List Bool) {a : Nat} (ha : a < 6) : ckReach M a a = true := (ckOut_le M (ckStart a) 6).2 a (by rw [ck_start_at ha]; simp)
theorem reach_closed (M : List Bool) {a : Nat} (ha : a < 6) : ∀ i j, i < 6 → j < 6 → ckReach M a i = true → mg M i j = true → ckReach M a j = true :=
  fun _ _ hi hj h1 h2 => closed_of_fix (by rw [ckOut_length, ck_start_length]) (ck_out_fix M ha) hi hj h1 h2
theorem reach_in {M : List Bool} {C : Nat → Prop} (hC : ∀ i j, i < 6 → j < 6 → C i → mg M i j = true → C j) {a b : Nat} (ha : a < 6) (h : C a) (hr : ckReach M a b = true) : C b :=
  out_sound hC 6 (ckStart a) (fun j hj => by rw [ck_start_at ha] at hj; rw [of_decide_eq_true hj]; exact h) b hr

/-- The matrix, beside what New keeps. -/
structure CkInv (n : Nat) (M : List Bool) (s : TS) : Prop where
  lm : M.length = 36
  ln : s.near.length = n
  lr : s.root.length = n
  nn : n ≤ 6
  mem : ∀ i j : Nat, i < n → j < n → (mg M i j = true ↔ (j : Int) ∈ s.near.getD i [])
  ins : ∀ i j : Nat, i < 6 → j < 6 → mg M i j = true → i < n ∧ j < n
  rng : ∀ i : Nat, ∀ x ∈ s.near.getD i [], 0 ≤ x ∧ x < n
  nd : ∀ i : Nat, (s.near.getD i []).Nodup
  A : ∀ i j : Nat, i < 6 → j < 6 → mg M i j = true → s.root.getD i 0 = s.root.getD j 0
  B : ∀ C : Nat → Prop, (∀ i j, i < 6 → j < 6 → C i → mg M i j = true → C j) → ∀ x y : Nat, x < n → y < n → s.root.getD x 0 = s.root.getD y 0 → C y → C x

theorem CkInv.reach {n : Nat} {M : List Bool} {s : TS} (h : CkInv n M s) {a b : Nat} (ha : a < n) (hb : b < n) : ckReach M a b = decide (s.root.getD a 0 = s.root.getD b 0) := by
  have hn := h.nn
  rw [Bool.eq_iff_iff, decide_eq_true_iff]
  constructor
  · intro hr
    exact reach_in (C := fun x => s.root.getD a 0 = s.root.getD x 0) (fun i j hi hj h1 h2 => h1.trans (h.A i j hi hj h2)) (by omega) rfl hr
  · intro hr
    exact h.B (fun x => ckReach M a x = true) (reach_closed M (by omega)) b a hb ha hr.symm (reach_self M (by omega))
end Go.Proofs.Ytnckccpcpndcmaa
