/-
  The matrix and New's roots: at the start, and a pair on. What New hands back. Plain Lean.
-/
import Derived.Test.YtnckccpcpndcmaaCk0
import Derived.Test.YtnckccpcpndcmaaTget
namespace Go.Proofs.Ytnckccpcpndcmaa

def ckSet (M : List Bool) (a b : Nat) : List Bool := (M.set (6 * a + b) true).set (6 * b + a) true
theorem mg_set1 {M : List Bool} (hm : M.length = 36) {a b i j : Nat} (hb : b < 6) (hi : i < 6) (hj : j < 6) : mg (M.set (6 * a + b) true) i j = (mg M i j || decide (i = a ∧ j = b)) := by
  unfold mg
  rw [ck_getD_set]
  by_cases h : i = a ∧ j = b
  · rw [if_pos ⟨by rw [h.1, h.2], by omega⟩, decide_eq_true h, Bool.or_true]
  · rw [if_neg (fun q => h (by omega)), decide_eq_false h, Bool.or_false]
theorem mg_set {M : List Bool} (hm : M.length = 36) {a b i j : Nat} (ha : a < 6) (hb : b < 6) (hi : i < 6) (hj : j < 6) : mg (ckSet M a b) i j = true ↔ mg M i j = true ∨ (i = a ∧ j = b) ∨ (i = b ∧ j = a) := by
  unfold ckSet
  rw [mg_set1 (by simp [hm]) ha hi hj, mg_set1 hm hb hi hj, Bool.or_eq_true, Bool.or_eq_true, decide_eq_true_iff, decide_eq_true_iff, or_assoc]

theorem near_step {s : TS} {n a b : Nat} (hl : s.near.length = n) (ha : a < n) (hb : b < n) (hab : a ≠ b) (i : Nat) :
    (s.step a b).near.getD i [] = if i = b then s.near.getD b [] ++ [(a : Int)] else if i = a then s.near.getD a [] ++ [(b : Int)] else s.near.getD i [] := by
  unfold TS.step
  simp only [List.getD, List.getElem?_set, List.length_set]
  by_cases h1 : i = b
  · subst h1; simp [hl, hb]
  · rw [if_neg (fun e => h1 e.symm), if_neg h1]
    by_cases h2 : i = a
    · subst h2; simp [hl, ha]
    · rw [if_neg (fun e => h2 e.symm), if_neg h2]
theorem root_step {s : TS} {n a b x : Nat} (hl : s.root.length = n) (hx : x < n) : (s.step a b).root.getD x 0 = if s.root.getD x 0 = s.root.getD b 0 then s.root.getD a 0 else s.root.getD x 0 := by
  have hq : x < s.root.length := by omega
  have h2 : x < (s.root.map fun r => if r = s.root.getD b 0 then s.root.getD a 0 else r).length := by rw [List.length_map]; exact hq
  have e1 : ∀ (l : List Int) (h : x < l.length), l.getD x 0 = l[x] := fun l h => by simp [List.getD, h]
  show (s.root.map fun r => if r = s.root.getD b 0 then s.root.getD a 0 else r).getD x 0 = _
  rw [e1 _ h2, e1 s.root hq, List.getElem_map]

theorem CkInv.start {n : Nat} (hn : n ≤ 6) : CkInv n (List.replicate 36 false) (startT n) := by
  have hM : ∀ i j : Nat, mg (List.replicate 36 false) i j = false := fun i j => by
    unfold mg
    simp only [List.getD, List.getElem?_replicate]
    split <;> rfl
  have hN : ∀ i, (startT n).near.getD i [] = [] := fun i => by
    unfold startT
    simp only [List.getD, List.getElem?_replicate]
    split <;> rfl
  have hR : ∀ x, x < n → (startT n).root.getD x 0 = x := fun x hx => by
    unfold startT
    simp [List.getD, hx]
  refine ⟨by simp, by simp [startT], by simp [startT], hn, fun i j _ _ => ?_, fun i j _ _ h => ?_, fun i x hx => ?_, fun i => ?_, fun i j _ _ h => ?_, fun C hC x y hx hy h hc => ?_⟩
  · rw [hM, hN]; simp
  · rw [hM] at h; cases h
  · rw [hN] at hx; cases hx
  · rw [hN]; exact List.nodup_nil
  · rw [hM] at h; cases h
  · rw [hR x hx, hR y hy] at h
    have : x = y := by omega
    rw [this]; exact hc

theorem CkInv.step {n : Nat} {M : List Bool} {s : TS} (h : CkInv n M s) {a b : Nat} (ha : a < n) (hb : b < n) (hab : a ≠ b) (hr : s.root.getD a 0 ≠ s.root.getD b 0) : CkInv n (ckSet M a b) (s.step a b) := by
  have hn := h.nn
  have hg : ∀ {i j : Nat}, i < 6 → j < 6 → (mg (ckSet M a b) i j = true ↔ mg M i j = true ∨ (i = a ∧ j = b) ∨ (i = b ∧ j = a)) := fun hi hj => mg_set h.lm (by omega) (by omega) hi hj
  have hN := near_step h.ln ha hb hab
  have hR : ∀ {x : Nat}, x < n → _ := fun {x} hx => root_step (a := a) (b := b) h.lr hx
  have nab : (b : Int) ∉ s.near.getD a [] := fun hm => hr (h.A a b (by omega) (by omega) ((h.mem a b ha hb).2 hm))
  have nba : (a : Int) ∉ s.near.getD b [] := fun hm => hr (h.A b a (by omega) (by omega) ((h.mem b a hb ha).2 hm)).symm
  refine ⟨by simp [ckSet, h.lm], by simp [TS.step, h.ln], by simp [TS.step, h.lr], hn, fun i j hi hj => ?_, fun i j hi hj hm => ?_, fun i x hx => ?_, fun i => ?_, fun i j hi hj hm => ?_, fun C hC x y hx hy hxy hc => ?_⟩
  · rw [hg (by omega) (by omega), hN i, h.mem i j hi hj]
    by_cases h1 : i = b
    · subst h1
      rw [if_pos rfl, List.mem_append, List.mem_singleton]
      constructor
      · rintro (h2 | h2 | h2)
        · exact .inl h2
        · exact absurd h2.1.symm hab
        · exact .inr (by rw [h2.2])
      · rintro (h2 | h2)
        · exact .inl h2
        · exact .inr (.inr ⟨rfl, by omega⟩)
    · rw [if_neg h1]
      by_cases h3 : i = a
      · subst h3
        rw [if_pos rfl, List.mem_append, List.mem_singleton]
        constructor
        · rintro (h2 | h2 | h2)
          · exact .inl h2
          · exact .inr (by rw [h2.2])
          · exact absurd h2.1 h1
        · rintro (h2 | h2)
          · exact .inl h2
          · exact .inr (.inl ⟨rfl, by omega⟩)
      · rw [if_neg h3]
        constructor
        · rintro (h2 | h2 | h2)
          · exact h2
          · exact absurd h2.1 h3
          · exact absurd h2.1 h1
        · exact fun h2 => .inl h2
  · rcases (hg hi hj).1 hm with h2 | h2 | h2
    · exact h.ins i j hi hj h2
    · omega
    · omega
  · rw [hN i] at hx
    split at hx
    · rcases List.mem_append.1 hx with hx | hx
      · exact h.rng _ x hx
      · rw [List.mem_singleton] at hx; omega
    · split at hx
      · rcases List.mem_append.1 hx with hx | hx
        · exact h.rng _ x hx
        · rw [List.mem_singleton] at hx; omega
      · exact h.rng _ x hx
  · rw [hN i]
    have hap : ∀ (l : List Int) (z : Int), l.Nodup → z ∉ l → (l ++ [z]).Nodup := fun l z h1 h2 => List.nodup_append.2 ⟨h1, by simp, fun p hp q hq => by
      rw [List.mem_singleton] at hq
      subst hq
      exact fun e => h2 (e ▸ hp)⟩
    split
    · exact hap _ _ (h.nd b) nba
    · split
      · exact hap _ _ (h.nd a) nab
      · exact h.nd i
  · have hij : i < n ∧ j < n := by
      rcases (hg hi hj).1 hm with h2 | h2 | h2
      · exact h.ins i j hi hj h2
      · omega
      · omega
    rw [hR hij.1, hR hij.2]
    rcases (hg hi hj).1 hm with h2 | h2 | h2
    · rw [h.A i j hi hj h2]
    · rw [h2.1, h2.2, if_neg hr, if_pos rfl]
    · rw [h2.1, h2.2, if_pos rfl, if_neg hr]
  · have hC0 : ∀ i j, i < 6 → j < 6 → C i → mg M i j = true → C j := fun i j hi hj h1 h2 => hC i j hi hj h1 ((hg hi hj).2 (.inl h2))
    have cab : C a → C b := fun h1 => hC a b (by omega) (by omega) h1 ((hg (by omega) (by omega)).2 (.inr (.inl ⟨rfl, rfl⟩)))
    have cba : C b → C a := fun h1 => hC b a (by omega) (by omega) h1 ((hg (by omega) (by omega)).2 (.inr (.inr ⟨rfl, rfl⟩)))
    have hB := h.B C hC0
    rw [hR hx, hR hy] at hxy
    split at hxy
    · rename_i h1
      split at hxy
      · rename_i h2
        exact hB x y hx hy (h1.trans h2.symm) hc
      · exact hB x b hx hb h1 (cab (hB a y ha hy hxy hc))
    · split at hxy
      · rename_i h2
        exact hB x a hx ha hxy (cba (hB b y hb hy h2.symm hc))
      · exact hB x y hx hy hxy hc
end Go.Proofs.Ytnckccpcpndcmaa
