/-
  The plain laws of orders: what is found hangs on the numbers and their filters alone.
-/
import Derived.Test.YtloplmaekonenaaGreatDoorZa42
namespace Go.Proofs.YtloplmaekonenaaGreatDoor
set_option maxRecDepth 20000
open Go.RowKit

/-- Two lists with the same numbers, of which each has the same filter, find the same. -/
theorem matL_cong {I J : List (Int × Fil)} (hp : (I.map Prod.fst).Perm (J.map Prod.fst)) (hf : ∀ id, idxF I id = idxF J id) (es : ByteArray) (L : List Att) : matL I es L = matL J es L := by
  unfold matL
  have hr : riseI (I.map Prod.fst) = riseI (J.map Prod.fst) := by
    refine List.Perm.eq_of_pairwise (le := fun a b => leI a b = true) (fun a b _ _ h1 h2 => ?_) (riseI_sorted _) (riseI_sorted _) ?_
    · unfold leI at *
      simp only [decide_eq_true_eq] at *
      omega
    · exact (List.mergeSort_perm _ _).trans (hp.trans (List.mergeSort_perm _ _).symm)
  rw [hr]
  congr 1
  funext x
  unfold matB cntA
  rw [hf]
theorem idxF_iff {I : List (Int × Fil)} (hn : (I.map Prod.fst).Nodup) {id : Int} {q : Fil} : idxF I id = some q ↔ (id, q) ∈ I := by
  refine ⟨idxF_some, fun h => ?_⟩
  induction I with
  | nil => cases h
  | cons p I ih =>
    rw [List.map_cons, List.nodup_cons] at hn
    unfold idxF
    rw [List.find?_cons]
    rcases List.mem_cons.1 h with h | h
    · subst h; simp
    · have hne : (p.1 == id) = false := by
        rw [beq_eq_false_iff_ne]
        intro e
        exact hn.1 (e ▸ List.mem_map_of_mem (f := Prod.fst) h)
      rw [hne]
      exact ih hn.2 h
theorem idxF_perm {I J : List (Int × Fil)} (hn : (I.map Prod.fst).Nodup) (hp : I.Perm J) (id : Int) : idxF I id = idxF J id := by
  have hj : (J.map Prod.fst).Nodup := (hp.map Prod.fst).nodup_iff.1 hn
  cases h : idxF I id with
  | some q => exact ((idxF_iff hj).2 (hp.mem_iff.1 ((idxF_iff hn).1 h))).symm
  | none =>
    cases h2 : idxF J id with
    | none => rfl
    | some q => rw [(idxF_iff hn).2 (hp.mem_iff.2 ((idxF_iff hj).1 h2))] at h; cases h
theorem matL_perm {I J : List (Int × Fil)} (hn : (I.map Prod.fst).Nodup) (hp : I.Perm J) (es : ByteArray) (L : List Att) : matL I es L = matL J es L := matL_cong (hp.map _) (idxF_perm hn hp) es L

/-- The numbers from t on, round about, are all numbers. -/
theorem turn_perm (r t : Nat) : ((List.range (t + r)).map fun i => (i + t) % (t + r)).Perm (List.range (t + r)) := by
  by_cases h0 : r = 0
  · subst h0
    rw [Nat.add_zero]
    refine List.Perm.of_eq ?_
    refine (List.map_congr_left fun i hi => ?_).trans (List.map_id _)
    rw [List.mem_range] at hi
    rw [Nat.add_mod_right, Nat.mod_eq_of_lt hi]
    rfl
  have h1 : (List.range (t + r)).map (fun i => (i + t) % (t + r)) = (List.range r).map (fun i => t + i) ++ List.range t := by
    rw [Nat.add_comm t r, List.range_add, List.map_append, List.map_map]
    congr 1
    · refine List.map_congr_left fun i hi => ?_
      rw [List.mem_range] at hi
      rw [Nat.mod_eq_of_lt (by omega)]
      omega
    · refine (List.map_congr_left fun i hi => ?_).trans (List.map_id _)
      rw [List.mem_range] at hi
      show (r + i + t) % (r + t) = i
      rw [show r + i + t = i + (r + t) by omega, Nat.add_mod_right, Nat.mod_eq_of_lt (by omega)]
  rw [h1, List.range_add]
  exact List.perm_append_comm
end Go.Proofs.YtloplmaekonenaaGreatDoor
