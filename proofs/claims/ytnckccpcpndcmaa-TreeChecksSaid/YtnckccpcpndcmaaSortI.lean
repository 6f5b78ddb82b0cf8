/-
  slices.Sort of ints that are owned.
-/
import Derived.Test.YtnckccpcpndcmaaTree
import Derived.Test.YtnckccpcpndcmaaShelf
import Derived.Sort.OwnSortedInts
namespace Go.Proofs.Ytnckccpcpndcmaa
open Go.RowKit Go.Sort

theorem heap_sorted {w : World} {g n off : Nat} {os : Array Obj} {cur : Array Value} {e : TypeId} {fr : Nat × Nat} (d : Array Int) (hb : w.heap[g]? = some (.cells cur e fr)) :
    (grow (putRow (Value.int .i64) (Sort.ahead w n) g off d) os).heap[g]? = some (.cells (putCells (Value.int .i64) off d cur) e fr) := by
  have hg : g < w.heap.size := (Array.getElem?_eq_some_iff.1 hb).1
  rw [heap_grow_old _ _ (by simpa using hg)]
  simp [putRow, mapBlock, Sort.ahead, Array.getElem?_modify, hb, onCells]
theorem mod_sorted {w : World} {g n off : Nat} {os : Array Obj} (d : Array Int) : Mod (fun k => k = g) w (grow (putRow (Value.int .i64) (Sort.ahead w n) g off d) os) := by
  refine ⟨rfl, rfl, rfl, by simp, fun k hk hne => ?_⟩
  rw [heap_grow_old _ _ (by simpa using hk)]
  have : g ≠ k := fun e => hne e.symm
  simp [putRow, mapBlock, Sort.ahead, Array.getElem?_modify, this]
theorem sortI_length (l : List Int) : (sortI l).length = l.length := List.length_mergeSort l
theorem take_sorted (cur : Array Value) (off : Nat) (ts : List Int) (h : off + ts.length ≤ cur.size) : ((putCells (Value.int .i64) off ts.toArray cur).toList.drop off).take ts.length = ints ts := by
  apply List.ext_getElem?
  intro j
  by_cases hj : j < ts.length
  · rw [List.getElem?_take_of_lt hj, List.getElem?_drop, Array.getElem?_toList]
    simp [putCells, hj, ints, show off + j < cur.size by omega]
  · rw [List.getElem?_take_eq_none (by omega), List.getElem?_eq_none (by simp [ints]; omega)]

theorem sort_own (w : World) (v : Value) (l : List Int) (h : OwnSl w 3 1 v l.length (ints l)) (hl : l.length < 4611686018427387904) :
    Calls Try.prog 14 #[v] w fun e w' => e = .returned (.tuple #[]) ∧ OwnSl w' 3 1 v l.length (ints (sortI l)) ∧ Mod (inBlock v) w w' := by
  rcases h.2 with ⟨rfl, h0⟩ | ⟨g, off, cap, cur, rfl, hg, hn, hc, hs, ht⟩
  · obtain rfl : l = [] := List.eq_nil_of_length_eq_zero h0
    refine (Try.slices_Sort_int_none none 0 w).mono fun e w' h => ?_
    obtain ⟨rfl, rfl⟩ := h
    have h1 : sortI [] = [] := by simp [sortI]
    rw [h1]
    exact ⟨rfl, OwnSl.nil _ _ _, Mod.refl _ _⟩
  · have hgl : g < w.heap.size := (Array.getElem?_eq_some_iff.1 hg).1
    have hat : ∀ j x, l[j]? = some x → cur[off + j]? = some (.int .i64 x) := fun j x hx => by
      have h1 : (ints l)[j]? = some (.int .i64 x) := ints_at hx
      rw [← ht, List.getElem?_take] at h1
      split at h1
      · rw [List.getElem?_drop] at h1
        simpa using h1
      · cases h1
    have hH : Holds (Value.int .i64) w g off l.toArray := fun j hj => by
      have hj' : j < l.length := by simpa using hj
      have h1 := hat j l[j] (List.getElem?_eq_getElem hj')
      refine ⟨?_, by simp [World.frozen?, hg]⟩
      rw [cell_of_row w g (off + j) cur 3 (0, 0) hg, h1]
      simp [hj']
    refine (Try.slices_Sort_int g off cap l w hH hgl hl).mono fun e w' h => ?_
    obtain ⟨rfl, n, os, rfl⟩ := h
    have hsl : (l.mergeSort fun x y => decide (x ≤ y)) = sortI l := rfl
    rw [hsl]
    have hbl : off + (sortI l).length ≤ cur.size := by rw [sortI_length]; omega
    refine ⟨rfl, ⟨by rw [ints_length, sortI_length, Nat.mul_one], .inr ⟨g, off, cap, _, rfl, heap_sorted _ hg, hn, hc, by simpa [putCells] using hs, ?_⟩⟩, (mod_sorted _).mono (fun k _ hk => by show some g = some k; rw [hk])⟩
    have := take_sorted cur off (sortI l) hbl
    rw [sortI_length] at this
    rw [Nat.mul_one]
    exact this
end Go.Proofs.Ytnckccpcpndcmaa
