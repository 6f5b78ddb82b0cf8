/-
  The neighbours of a tree, told by the matrix. Plain Lean.
-/
import Derived.Test.YtnckccpcpndcmaaCk1
namespace Go.Proofs.Ytnckccpcpndcmaa

theorem nodup_len : ∀ {l m : List Int}, l.Nodup → (∀ x ∈ l, x ∈ m) → l.length ≤ m.length
  | [], _, _, _ => Nat.zero_le _
  | a :: l, m, h, hs => by
    have ha := hs a (by simp)
    have hn := List.nodup_cons.1 h
    have := nodup_len (m := m.erase a) hn.2 (fun x hx => (List.mem_erase_of_ne (fun e => hn.1 (by rw [← e]; exact hx))).2 (hs x (by simp [hx])))
    rw [List.length_erase_of_mem ha] at this
    have : 0 < m.length := List.length_pos_of_mem ha
    simp only [List.length_cons]
    omega
def cntM (M : List Bool) (i j : Nat) : Nat := (List.range j).countP (mg M i)
theorem cntM_next (M : List Bool) (i j : Nat) : cntM M i (j + 1) = cntM M i j + (if mg M i j = true then 1 else 0) := by
  unfold cntM
  rw [List.range_succ, List.countP_append]
  simp [List.countP_cons]
theorem cntM_le (M : List Bool) (i j : Nat) : cntM M i j ≤ j := by
  unfold cntM
  have := List.countP_le_length (p := mg M i) (l := List.range j)
  simpa using this

theorem sortI_perm (l : List Int) : (sortI l).Perm l := List.mergeSort_perm l _
theorem sortI_lt {l : List Int} (h : l.Nodup) : (sortI l).Pairwise (· < ·) := by
  have hs := List.pairwise_mergeSort (le := fun x y : Int => decide (x ≤ y)) (fun a b c h1 h2 => by simp at *; omega) (fun a b => by simp; omega) l
  have hn : (sortI l).Nodup := (sortI_perm l).nodup_iff.2 h
  have := hs.and hn
  exact this.imp fun {a b} hab => by
    have h1 : a ≤ b := by simpa using hab.1
    have h2 := hab.2
    omega

section
variable {n : Nat} {M : List Bool} {s : TS}
theorem CkInv.near_len (h : CkInv n M s) {i : Nat} (hi : i < n) : (s.near.getD i []).length = cntM M i n := by
  have hnd : ((List.range n).filter (mg M i)).Nodup := List.nodup_range.filter _
  have hmn : (((List.range n).filter (mg M i)).map Int.ofNat).Nodup := List.pairwise_map.2 (hnd.imp fun {a b} hab e => hab (Int.ofNat.inj e))
  have hmem : ∀ x : Int, x ∈ s.near.getD i [] ↔ x ∈ ((List.range n).filter (mg M i)).map Int.ofNat := fun x => by
    rw [List.mem_map]
    constructor
    · intro hx
      have := h.rng i x hx
      exact ⟨x.toNat, List.mem_filter.2 ⟨List.mem_range.2 (by omega), (h.mem i x.toNat hi (by omega)).2 (by rw [Int.toNat_of_nonneg this.1]; exact hx)⟩, Int.toNat_of_nonneg this.1⟩
    · rintro ⟨j, hj, rfl⟩
      rw [List.mem_filter, List.mem_range] at hj
      exact (h.mem i j hi hj.1).1 hj.2
  have h1 := nodup_len (h.nd i) (fun x hx => (hmem x).1 hx)
  have h2 := nodup_len hmn (fun x hx => (hmem x).2 hx)
  have e : cntM M i n = ((List.range n).filter (mg M i)).length := by unfold cntM; rw [List.countP_eq_length_filter]
  rw [List.length_map] at h1 h2
  omega
theorem CkInv.nearF (h : CkInv n M s) {i : Nat} (hi : i < n) : nearF (s.near.map sortI) i = sortI (s.near.getD i []) := by
  have hl : i < s.near.length := by rw [h.ln]; exact hi
  refine nearF_at ?_
  rw [List.getElem?_map, List.getElem?_eq_getElem hl]
  simp [List.getD, hl]
theorem CkInv.linked (h : CkInv n M s) {i j : Nat} (hi : i < n) (hj : j < n) : linkedF (s.near.map sortI) i j = mg M i j := by
  unfold linkedF
  rw [h.nearF hi, Bool.eq_iff_iff, List.any_eq_true, h.mem i j hi hj]
  constructor
  · rintro ⟨x, hx, hxj⟩
    rw [← eq_of_beq hxj]
    exact (sortI_perm _).mem_iff.1 hx
  · intro hm
    exact ⟨_, (sortI_perm _).mem_iff.2 hm, beq_self_eq_true _⟩
theorem CkInv.rows (h : CkInv n M s) : ∀ l ∈ s.near.map sortI, l.length ≤ 6 := fun l hl => by
  obtain ⟨l0, h0, rfl⟩ := List.mem_map.1 hl
  obtain ⟨i, hi, rfl⟩ := List.mem_iff_getElem.1 h0
  have hin : i < n := by rw [← h.ln]; exact hi
  have e := h.near_len hin
  have : s.near.getD i [] = s.near[i] := by simp [List.getD, hi]
  rw [this] at e
  rw [(sortI_perm _).length_eq, e]
  exact Nat.le_trans (cntM_le _ _ _) h.nn
/-- What the law asks of a broker's neighbours. -/
theorem CkInv.row (h : CkInv n M s) {i : Nat} (hi : i < n) : ∃ l, Go.Proofs.Ytnckccpcpndcmaa.nearF (s.near.map sortI) i = l ∧ l.length ≤ 6 ∧ l.length = cntM M i n ∧ ∀ (k : Nat) (x y : Int), l[k]? = some x → l[k + 1]? = some y → x < y := by
  refine ⟨_, rfl, ?_, ?_, fun k x y hx hy => ?_⟩
  · rw [h.nearF hi, (sortI_perm _).length_eq, h.near_len hi]
    exact Nat.le_trans (cntM_le _ _ _) h.nn
  · rw [h.nearF hi, (sortI_perm _).length_eq, h.near_len hi]
  · rw [h.nearF hi] at hx hy
    obtain ⟨h1, rfl⟩ := List.getElem?_eq_some_iff.1 hx
    obtain ⟨h2, rfl⟩ := List.getElem?_eq_some_iff.1 hy
    exact List.pairwise_iff_getElem.1 (sortI_lt (h.nd i)) k (k + 1) h1 h2 (by omega)
theorem CkInv.outs (h : CkInv n M s) : Go.Proofs.Ytnckccpcpndcmaa.nearF (s.near.map sortI) n = [] ∧ Go.Proofs.Ytnckccpcpndcmaa.nearF (s.near.map sortI) (-1) = [] ∧ linkedF (s.near.map sortI) (-1) 0 = false := by
  have h2 : Go.Proofs.Ytnckccpcpndcmaa.nearF (s.near.map sortI) (-1) = [] := rfl
  refine ⟨?_, h2, by unfold linkedF; rw [h2]; rfl⟩
  unfold Go.Proofs.Ytnckccpcpndcmaa.nearF
  rw [if_neg (by omega), Int.toNat_natCast]
  simp [List.getD, h.ln]
end
end Go.Proofs.Ytnckccpcpndcmaa
