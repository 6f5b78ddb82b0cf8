/-
  What is right is small; the names of an event are unlike.
  The low sixteen bits.
  The plain law of removal: the rising numbers of what is left.
-/
import Derived.Test.YtloplmaekonenaaGreatDoorZa38
import Derived.Test.YtloplmaekonenaaGreatDoorZa41
namespace Go.Proofs.YtloplmaekonenaaGreatDoor
set_option maxRecDepth 20000
open Go.RowKit

theorem nm_size {s : ByteArray} (h : isName s = true) : s.size ≤ 12 := by
  unfold isName at h
  simp only [Bool.and_eq_true, decide_eq_true_eq] at h
  exact h.2.2
theorem ev_each {l : List Att} (h : evRight l = true) {a : Att} (ha : a ∈ l) : isName a.name = true ∧ a.v.right = true := by
  unfold evRight at h
  simp only [Bool.and_eq_true, List.all_eq_true, decide_eq_true_eq] at h
  obtain ⟨k, hk⟩ := List.mem_iff_getElem?.1 ha
  have := h.1 k (List.mem_range.2 (List.getElem?_eq_some_iff.1 hk).1)
  unfold okAt at this
  rw [hk] at this
  simp only [Bool.and_eq_true] at this
  exact ⟨this.1.1.1, this.1.1.2⟩
theorem cut_sz (s : ByteArray) : s.size ≤ (cutS s).1.size + 1 + (cutS s).2.1.size := by
  unfold cutS
  split
  · simp only [ByteArray.size_extract]
    omega
  · show s.size ≤ s.size + 1 + _
    omega
theorem scN_size : ∀ (f : Nat) (s : ByteArray) (k : Nat), scN f s = some k → s.size ≤ 13 * k
  | 0, s, k, h => by cases h
  | f + 1, s, k, h => by
    rw [scN_succ] at h
    have hc := cut_sz s
    by_cases h1 : isName (cutS s).1 = true
    · rw [if_pos h1] at h
      have hn := nm_size h1
      by_cases h2 : (cutS s).2.2 = true
      · rw [if_pos h2] at h
        cases h3 : scN f (cutS s).2.1 with
        | none => rw [h3] at h; cases h
        | some k' =>
          rw [h3] at h
          have h4 : k' + 1 = k := by simpa using h
          have := scN_size f _ k' h3
          omega
      · rw [if_neg h2] at h
        have h4 : (cutS s).1 = s := by
          unfold cutS at h2 ⊢
          split
          · rename_i h5; rw [if_pos h5] at h2; exact absurd rfl h2
          · rfl
        rw [h4] at hn
        have h4 : 1 = k := by simpa using h
        omega
    · rw [if_neg h1] at h; cases h
theorem scRight_size {s : ByteArray} (h : scRight s = true) : s.size ≤ 52 := by
  unfold scRight at h
  rw [Bool.or_eq_true] at h
  rcases h with h | h
  · rw [List.isEmpty_iff, ByteArray.toList_eq] at h
    have : s.size = s.data.toList.length := by rw [Array.length_toList]; rfl
    rw [this, h]
    exact Nat.zero_le _
  · unfold scM at h
    cases h1 : scN (s.size + 1) s with
    | none => rw [h1] at h; cases h
    | some k =>
      rw [h1] at h
      have := scN_size _ _ _ h1
      simp only [decide_eq_true_eq] at h
      omega
/-- What a right filter is like. -/
theorem fil_bounds {sc : ByteArray} {l : List Cnd} (h : filRight sc l = true) : sc.size ≤ 52 ∧ l.length ≤ 6 ∧ ∀ c ∈ l, c.name.size ≤ 12 ∧ (0 ≤ c.op ∧ c.op ≤ 7) ∧ (0 ≤ c.v.kind ∧ c.v.kind ≤ 3) ∧ c.v.text.size ≤ 40 := by
  unfold filRight at h
  simp only [Bool.and_eq_true, List.all_eq_true, decide_eq_true_eq] at h
  refine ⟨scRight_size h.2.1, h.2.2, fun c hc => ?_⟩
  have h1 := h.1 c hc
  unfold Cnd.rightB V.right at h1
  simp only [Bool.and_eq_true, decide_eq_true_eq] at h1
  exact ⟨nm_size h1.1, ⟨h1.2.1, h1.2.2.1⟩, ⟨h1.2.2.2.1, h1.2.2.2.2.1⟩, h1.2.2.2.2.2⟩
theorem ev7_small {l : List Att} {a : Att} (h : a ∈ ev7L l) : a.name.size ≤ 12 ∧ a.v.text.size ≤ 40 := by
  have h1 := (List.mem_filter.1 (List.mem_of_mem_take h)).2
  have h2 := ev_each h1 (List.mem_singleton.2 rfl)
  refine ⟨nm_size h2.1, ?_⟩
  have h3 := h2.2
  unfold V.right at h3
  simp only [Bool.and_eq_true, decide_eq_true_eq] at h3
  exact h3.2.2
theorem ev7_len (l : List Att) : (ev7L l).length ≤ 8 := by
  unfold ev7L
  rw [List.length_take]
  omega
theorem ev7S_size {s : ByteArray} : (ev7S s).size ≤ 52 := by
  unfold ev7S
  split
  · rename_i h; exact scRight_size h
  · exact Nat.zero_le _
end Go.Proofs.YtloplmaekonenaaGreatDoor

namespace Go.Proofs.YtloplmaekonenaaGreatDoor
set_option maxRecDepth 20000
open Go.RowKit

theorem andp_pow (n : Int) (k : Nat) (hk : k < 63) : bits .and .i64 n ((2 ^ k - 1 : Nat) : Int) = n % ((2 ^ k : Nat) : Int) := by
  have hp : 2 ^ k < 2 ^ 63 := Nat.pow_lt_pow_right (by decide) hk
  have hp0 : 0 < 2 ^ k := Nat.two_pow_pos k
  have h127 : (BitVec.ofInt 64 ((2 ^ k - 1 : Nat) : Int)).toNat = 2 ^ k - 1 := by
    rw [BitVec.toNat_ofInt]
    omega
  have key : (BitVec.ofInt 64 n &&& BitVec.ofInt 64 ((2 ^ k - 1 : Nat) : Int)).toNat = (n % ((2 ^ 64 : Nat) : Int)).toNat % 2 ^ k := by
    rw [BitVec.toNat_and, BitVec.toNat_ofInt, h127, Nat.and_two_pow_sub_one_eq_mod]
  show IntKind.i64.wrap ((BitVec.ofInt 64 n &&& BitVec.ofInt 64 ((2 ^ k - 1 : Nat) : Int)).toNat : Nat) = n % ((2 ^ k : Nat) : Int)
  rw [key, IntKind.wrap_i64]
  have h1 : (n % ((2 ^ 64 : Nat) : Int)).toNat % 2 ^ k < 2 ^ k := Nat.mod_lt _ hp0
  have h2 : (((n % ((2 ^ 64 : Nat) : Int)).toNat % 2 ^ k : Nat) : Int) = n % ((2 ^ k : Nat) : Int) := by
    rw [Int.natCast_emod, Int.toNat_of_nonneg (Int.emod_nonneg _ (by decide))]
    exact Int.emod_emod_of_dvd n (by exact_mod_cast Nat.pow_dvd_pow 2 (by omega))
  rw [← h2]
  generalize (n % ((2 ^ 64 : Nat) : Int)).toNat % 2 ^ k = q at *
  omega
theorem andp16 (n : Int) : ∃ t : Nat, bits .and .i64 n 65535 = t ∧ t < 65536 := ⟨(n % 65536).toNat, by
  have := andp_pow n 16 (by decide)
  have e : bits .and .i64 n 65535 = n % 65536 := this
  rw [e]
  omega, by omega⟩
end Go.Proofs.YtloplmaekonenaaGreatDoor

namespace Go.Proofs.YtloplmaekonenaaGreatDoor
set_option maxRecDepth 20000
open Go.RowKit

theorem riseI_sorted (L : List Int) : (riseI L).Pairwise (fun a b => leI a b = true) := by
  unfold riseI
  refine List.pairwise_mergeSort (fun a b c h1 h2 => ?_) (fun a b => ?_) L
  · unfold leI at *
    simp only [decide_eq_true_eq] at *
    omega
  · unfold leI
    simp only [Bool.or_eq_true, decide_eq_true_eq]
    omega
theorem riseI_filter (L : List Int) (p : Int → Bool) : riseI (L.filter p) = (riseI L).filter p := by
  refine List.Perm.eq_of_pairwise (le := fun a b => leI a b = true) (fun a b _ _ h1 h2 => ?_) (riseI_sorted _) ((riseI_sorted L).sublist List.filter_sublist) ?_
  · unfold leI at *
    simp only [decide_eq_true_eq] at *
    omega
  · exact (List.mergeSort_perm _ _).trans (((List.mergeSort_perm L leI).filter p).symm)
theorem idxD_fst (I : List (Int × Fil)) (g : Int) : (idxD I g).map Prod.fst = (I.map Prod.fst).filter fun x => !(x == g) := by
  unfold idxD
  rw [List.filter_map]
  rfl
theorem matB_del (I : List (Int × Fil)) (es : ByteArray) (L : List Att) (g x : Int) (h : x ≠ g) : matB (idxD I g) es L x = matB I es L x := by
  have e : idxF (idxD I g) x = idxF I x := by rw [idxF_del, if_neg h]
  unfold matB cntA
  rw [e]
/-- What is found when a number is gone. -/
theorem matL_del (I : List (Int × Fil)) (es : ByteArray) (L : List Att) (g : Int) : matL (idxD I g) es L = (matL I es L).filter fun x => !(x == g) := by
  unfold matL
  rw [idxD_fst, riseI_filter, List.filter_filter, List.filter_filter]
  congr 1
  funext x
  by_cases h : x = g
  · rw [h]; simp
  · rw [matB_del I es L g x h, Bool.and_comm]
end Go.Proofs.YtloplmaekonenaaGreatDoor
