/-
  Strings in memory: slices.Sort, slices.Compact and slices.Contains of strings that are owned, or read; what is sorted and told once.
-/
import Derived.Test.YtpfnemkfbelpcaaMem
import Derived.Test.YtpfnemkfbelpcaaShelf
import Derived.Sort.Row
namespace Go.Proofs.Ytpfnemkfbelpcaa
set_option maxRecDepth 20000
open Go.RowKit Go.Sort

def strs (l : List (List UInt8)) : List Value := l.map encStr
theorem strs_length (l : List (List UInt8)) : (strs l).length = l.length := by simp [strs]
theorem strs_append (l m : List (List UInt8)) : strs (l ++ m) = strs l ++ strs m := by simp [strs]
theorem strs_at {l : List (List UInt8)} {k : Nat} {x : List UInt8} (h : l[k]? = some x) : (strs l)[k]? = some (.string ⟨x.toArray⟩) := by simp [strs, h]
theorem strs_one (l : List (List UInt8)) : ∀ u ∈ strs l, u.oneCell' = true := fun u hu => by
  obtain ⟨x, -, rfl⟩ := List.mem_map.1 hu
  rfl

theorem heap_putS {w : World} {g n off : Nat} {os : Array Obj} {cur : Array Value} {e : TypeId} {fr : Nat × Nat} (d : Array (List UInt8)) (hb : w.heap[g]? = some (.cells cur e fr)) :
    (grow (putRow encStr (Sort.ahead w n) g off d) os).heap[g]? = some (.cells (putCells encStr off d cur) e fr) := by
  have hg : g < w.heap.size := (Array.getElem?_eq_some_iff.1 hb).1
  rw [heap_grow_old _ _ (by simpa using hg)]
  simp [putRow, mapBlock, Sort.ahead, Array.getElem?_modify, hb, onCells]
theorem heap_putS0 {w : World} {g n off : Nat} {cur : Array Value} {e : TypeId} {fr : Nat × Nat} (d : Array (List UInt8)) (hb : w.heap[g]? = some (.cells cur e fr)) :
    (putRow encStr (Sort.ahead w n) g off d).heap[g]? = some (.cells (putCells encStr off d cur) e fr) := by
  simp [putRow, mapBlock, Sort.ahead, Array.getElem?_modify, hb, onCells]
theorem mod_putS {w : World} {g n off : Nat} {os : Array Obj} (d : Array (List UInt8)) : Mod (fun k => k = g) w (grow (putRow encStr (Sort.ahead w n) g off d) os) := by
  refine ⟨rfl, rfl, rfl, by simp, fun k hk hne => ?_⟩
  rw [heap_grow_old _ _ (by simpa using hk)]
  have : g ≠ k := fun e => hne e.symm
  simp [putRow, mapBlock, Sort.ahead, Array.getElem?_modify, this]
theorem mod_putS0 {w : World} {g n off : Nat} (d : Array (List UInt8)) : Mod (fun k => k = g) w (putRow encStr (Sort.ahead w n) g off d) := by
  refine ⟨rfl, rfl, rfl, by simp, fun k hk hne => ?_⟩
  have : g ≠ k := fun e => hne e.symm
  simp [putRow, mapBlock, Sort.ahead, Array.getElem?_modify, this]
theorem take_putS (cur : Array Value) (off : Nat) (ts us : List (List UInt8)) (h : off + (ts ++ us).length ≤ cur.size) : ((putCells encStr off (ts ++ us).toArray cur).toList.drop off).take ts.length = strs ts := by
  apply List.ext_getElem?
  intro j
  rw [List.length_append] at h
  by_cases hj : j < ts.length
  · rw [List.getElem?_take_of_lt hj, List.getElem?_drop, Array.getElem?_toList]
    have h1 : j < ts.length + us.length := by omega
    simp [putCells, h1, hj, strs, show off + j < cur.size by omega, List.getElem!_eq_getElem?_getD]
  · rw [List.getElem?_take_eq_none (by omega), List.getElem?_eq_none (by simp [strs]; omega)]

theorem holds_own {w : World} {g off : Nat} {cur : Array Value} {e : TypeId} (l : List (List UInt8)) (hg : w.heap[g]? = some (.cells cur e (0, 0))) (ht : (cur.toList.drop off).take (l.length * 1) = strs l) : Holds encStr w g off l.toArray := fun j hj => by
  have hj' : j < l.length := by simpa using hj
  have h1 : (strs l)[j]? = some (encStr l[j]) := by simp [strs, hj']
  rw [← ht, List.getElem?_take_of_lt (by omega), List.getElem?_drop] at h1
  refine ⟨?_, by simp [World.frozen?, hg]⟩
  rw [cell_of_row w g (off + j) cur e (0, 0) hg, ← Array.getElem?_toList, h1]
  simp [hj']

def sortL (l : List (List UInt8)) : List (List UInt8) := l.mergeSort fun x y => decide (x ≤ y)
theorem sortL_length (l : List (List UInt8)) : (sortL l).length = l.length := List.length_mergeSort l

theorem sort_str (w : World) (v : Value) (l : List (List UInt8)) (h : OwnSl w 9 1 v l.length (strs l)) (hl : l.length < 4611686018427387904) :
    Calls Try.prog 36 #[v] w fun e w' => e = .returned (.tuple #[]) ∧ OwnSl w' 9 1 v (sortL l).length (strs (sortL l)) ∧ Mod (inBlock v) w w' := by
  rcases h.2 with ⟨rfl, h0⟩ | ⟨g, off, cap, cur, rfl, hg, hn, hc, hs, ht⟩
  · obtain rfl : l = [] := List.eq_nil_of_length_eq_zero h0
    refine (Try.slices_Sort_string_none none 0 w).mono fun e w' h => ?_
    obtain ⟨rfl, rfl⟩ := h
    have h1 : sortL [] = [] := by simp [sortL]
    rw [h1]
    exact ⟨rfl, OwnSl.nil _ _ _, Mod.refl _ _⟩
  · have hgl : g < w.heap.size := (Array.getElem?_eq_some_iff.1 hg).1
    refine (Try.slices_Sort_string g off cap l w (holds_own l hg ht) hgl hl).mono fun e w' h => ?_
    obtain ⟨rfl, n, os, rfl⟩ := h
    have hsl : (l.mergeSort fun x y => decide (x ≤ y)) = sortL l := rfl
    rw [hsl]
    have hbl : off + (sortL l ++ []).length ≤ cur.size := by rw [List.append_nil, sortL_length]; omega
    refine ⟨rfl, ⟨by rw [strs_length, Nat.mul_one], .inr ⟨g, off, cap, _, by rw [sortL_length], heap_putS _ hg, by rw [sortL_length]; exact hn, hc, by simpa [putCells] using hs, ?_⟩⟩, (mod_putS _).mono (fun k _ hk => by show some g = some k; rw [hk])⟩
    have := take_putS cur off (sortL l) [] hbl
    rw [List.append_nil] at this
    rw [Nat.mul_one]
    exact this

theorem compactUpTo_len {α : Type} [DecidableEq α] [Inhabited α] (d : Array α) : ∀ m, (Lib.compactUpTo d m).length ≤ m := fun m => by
  unfold Lib.compactUpTo
  rw [List.length_map]
  exact Nat.le_trans (List.length_filter_le _ _) (by simp)
theorem compact_len (l : List (List UInt8)) : (Lib.compact l).length ≤ l.length := compactUpTo_len _ _

theorem compact_str (w : World) (v : Value) (l : List (List UInt8)) (h : OwnSl w 9 1 v l.length (strs l)) (hl : l.length < 4611686018427387904) :
    Calls Try.prog 37 #[v] w fun e w' => ∃ v', e = .returned v' ∧ OwnSl w' 9 1 v' (Lib.compact l).length (strs (Lib.compact l)) ∧ Mod (inBlock v) w w' ∧ ∀ k, inBlock v' k → inBlock v k := by
  rcases h.2 with ⟨rfl, h0⟩ | ⟨g, off, cap, cur, rfl, hg, hn, hc, hs, ht⟩
  · obtain rfl : l = [] := List.eq_nil_of_length_eq_zero h0
    refine (Try.slices_Compact_string_empty none 0 w).mono fun e w' h => ?_
    obtain ⟨rfl, rfl⟩ := h
    have h1 : Lib.compact ([] : List (List UInt8)) = [] := rfl
    rw [h1]
    exact ⟨_, rfl, OwnSl.nil _ _ _, Mod.refl _ _, fun _ h => h⟩
  · have hgl : g < w.heap.size := (Array.getElem?_eq_some_iff.1 hg).1
    refine (Try.slices_Compact_string g off cap l w (holds_own l hg ht) (by omega) (by omega)).mono fun e w' h => ?_
    obtain ⟨rfl, q, rfl⟩ := h
    have hle := compact_len l
    have hbl : off + (Lib.compact l ++ List.replicate (l.length - (Lib.compact l).length) []).length ≤ cur.size := by rw [List.length_append, List.length_replicate]; omega
    refine ⟨_, rfl, ⟨by rw [strs_length, Nat.mul_one], .inr ⟨g, off, cap, _, rfl, heap_putS0 _ hg, by omega, hc, by simpa [putCells] using hs, ?_⟩⟩, (mod_putS0 _).mono (fun k _ hk => by show some g = some k; rw [hk]), fun k hk => hk⟩
    have := take_putS cur off (Lib.compact l) _ hbl
    rw [Nat.mul_one]
    exact this

theorem contains_str (w : World) (v : Value) (l : List (List UInt8)) (h : RdSl w 1 v l.length (strs l)) (hl : l.length ≤ 1000000) (x : ByteArray) :
    Calls Try.prog 61 #[v, .string x] w fun e w' => e = .returned (.bool (decide (x.data.toList ∈ l))) ∧ w' = w := by
  obtain ⟨-, a, c, rfl, hn, h0, hb⟩ := h
  cases l with
  | nil =>
    refine (Try.slices_Contains_string_empty a c x w).mono fun e w' h => ?_
    obtain ⟨rfl, rfl⟩ := h
    exact ⟨rfl, rfl⟩
  | cons y l =>
    cases a with
    | none => exact absurd (h0 rfl) (by simp)
    | some b =>
      obtain ⟨g, off, rfl, hc⟩ := hb b rfl (by simp)
      refine (Try.slices_Contains_string g off (y :: l).length c ((y :: l).map fun z => (⟨z.toArray⟩ : ByteArray)) x w (by simp) (by omega) (fun j hj => ?_)).mono fun e w' h => ?_
      · have hj' : j < (y :: l).length := by simpa using hj
        have h1 := hc j _ (strs_at (List.getElem?_eq_getElem hj'))
        rw [h1, List.getD_eq_getElem?_getD, List.getElem?_map, List.getElem?_eq_getElem hj']
        rfl
      · obtain ⟨rfl, rfl⟩ := h
        refine ⟨?_, rfl⟩
        congr 2
        rw [Bool.eq_iff_iff, Lib.containsS_iff, decide_eq_true_eq, List.take_of_length_le (by simp), List.mem_map]
        constructor
        · rintro ⟨z, hz, rfl⟩; exact hz
        · exact fun h => ⟨_, h, rfl⟩

theorem rd_str {w : World} {a : Option Addr} {cap : Nat} {l : List (List UInt8)} {j : Nat} {x : List UInt8} (h : RdSl w 1 (.slice a l.length cap) l.length (strs l)) (hx : l[j]? = some x) :
    ∃ g off, a = some ⟨g, off, none⟩ ∧ ∀ (k : Nat) (y : List UInt8), l[k]? = some y → w.cell? ⟨g, off + k, none⟩ = some (.string ⟨y.toArray⟩) := by
  obtain ⟨-, a', c', h1, -, h3, h4⟩ := h
  cases h1
  have hl : 0 < l.length := by have := (List.getElem?_eq_some_iff.1 hx).1; omega
  cases a with
  | none => have := h3 rfl; omega
  | some b =>
    obtain ⟨g, off, rfl, hc⟩ := h4 b rfl hl
    exact ⟨g, off, rfl, fun k y hy => hc k _ (strs_at hy)⟩

/- The plain part: what is sorted, each told once. -/
theorem compactUpTo_mem (d : Array (List UInt8)) (x : List UInt8) : ∀ m, x ∈ Lib.compactUpTo d m ↔ ∃ j, j < m ∧ d[j]! = x
  | 0 => by simp [Lib.compactUpTo]
  | m + 1 => by
    rw [Lib.compactUpTo_succ, List.mem_append, compactUpTo_mem d x m]
    constructor
    · rintro (⟨j, hj, h⟩ | h)
      · exact ⟨j, by omega, h⟩
      · split at h
        · exact ⟨m, by omega, (List.mem_singleton.1 h).symm⟩
        · cases h
    · rintro ⟨j, hj, h⟩
      by_cases hjm : j < m
      · exact .inl ⟨j, hjm, h⟩
      · obtain rfl : j = m := by omega
        cases hk : Lib.keeps d j
        · simp only [Lib.keeps, decide_eq_false_iff_not, not_or, Classical.not_not] at hk
          exact .inl ⟨j - 1, by omega, hk.2 ▸ h⟩
        · exact .inr (by simp [h])
theorem compact_mem {l : List (List UInt8)} {x : List UInt8} : x ∈ Lib.compact l ↔ x ∈ l := by
  unfold Lib.compact
  rw [compactUpTo_mem, List.mem_iff_getElem]
  constructor
  · rintro ⟨j, hj, h⟩; exact ⟨j, hj, by simpa [hj] using h⟩
  · rintro ⟨j, hj, h⟩; exact ⟨j, hj, by simpa [hj] using h⟩
theorem lt_of_le_ne {x y : List UInt8} (h : x ≤ y) (hn : y ≠ x) : x < y := Classical.byContradiction fun h1 => hn (List.le_antisymm h1 h)
theorem compactUpTo_rises (d : Array (List UInt8)) : ∀ m, (∀ j, j + 1 < m → d[j]! ≤ d[j + 1]!) → (Lib.compactUpTo d m).Pairwise (· < ·) ∧ ∀ x ∈ Lib.compactUpTo d m, x ≤ d[m - 1]!
  | 0, _ => by simp [Lib.compactUpTo]
  | m + 1, h => by
    obtain ⟨h1, h2⟩ := compactUpTo_rises d m (fun j hj => h j (by omega))
    rw [Lib.compactUpTo_succ]
    have hstep : ∀ x ∈ Lib.compactUpTo d m, x ≤ d[m]! := fun x hx => by
      cases m with
      | zero => simp [Lib.compactUpTo] at hx
      | succ m => exact List.le_trans (h2 x hx) (h m (by omega))
    cases hk : Lib.keeps d m
    · simp only [Bool.false_eq_true, if_false, List.append_nil, Nat.add_sub_cancel]
      exact ⟨h1, hstep⟩
    · simp only [if_true, Nat.add_sub_cancel]
      refine ⟨List.pairwise_append.2 ⟨h1, List.pairwise_singleton _ _, fun x hx y hy => ?_⟩, fun x hx => ?_⟩
      · obtain rfl := List.mem_singleton.1 hy
        cases m with
        | zero => simp [Lib.compactUpTo] at hx
        | succ m =>
          simp only [Lib.keeps, decide_eq_true_eq] at hk
          exact List.lt_of_le_of_lt (h2 x hx) (lt_of_le_ne (h m (by omega)) (by rcases hk with hk | hk; cases hk; exact hk))
      · rcases List.mem_append.1 hx with hx | hx
        · exact hstep x hx
        · obtain rfl := List.mem_singleton.1 hx; exact List.le_refl _
def hidL (l : List (List UInt8)) : List (List UInt8) := Lib.compact (sortL l)
theorem hidL_mem {l : List (List UInt8)} {x : List UInt8} : x ∈ hidL l ↔ x ∈ l := by
  unfold hidL sortL
  rw [compact_mem, List.mem_mergeSort]
theorem hidL_len (l : List (List UInt8)) : (hidL l).length ≤ l.length := Nat.le_trans (compact_len _) (by rw [sortL_length]; exact Nat.le_refl _)
theorem hidL_rises (l : List (List UInt8)) : (hidL l).Pairwise (· < ·) := by
  unfold hidL Lib.compact
  refine (compactUpTo_rises _ _ fun j hj => ?_).1
  have hp : (sortL l).Pairwise fun x y => x ≤ y := (List.pairwise_mergeSort (le := fun x y : List UInt8 => decide (x ≤ y)) (fun a b c h1 h2 => decide_eq_true (List.le_trans (of_decide_eq_true h1) (of_decide_eq_true h2))) (fun a b => by rcases List.le_total a b with h | h <;> simp [h]) l).imp of_decide_eq_true
  have h1 := List.pairwise_iff_getElem.1 hp j (j + 1) (by omega) hj (by omega)
  have hj1 : j < (sortL l).length := by omega
  simpa [hj, hj1] using h1
end Go.Proofs.Ytpfnemkfbelpcaa
