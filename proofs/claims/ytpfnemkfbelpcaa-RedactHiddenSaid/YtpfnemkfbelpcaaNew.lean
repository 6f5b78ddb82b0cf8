/-
  Package event: New.
-/
import Derived.Test.YtpfnemkfbelpcaaIns
namespace Go.Proofs.Ytpfnemkfbelpcaa
set_option maxRecDepth 20000
open Go.RowKit

def Att.canon (a : Att) : Att := ⟨a.name, a.v.canon⟩
def putA (l : List Att) (a : Att) : List Att := if there l a.name = true then l.take (pos l a.name) ++ a :: l.drop (pos l a.name + 1) else l.take (pos l a.name) ++ a :: l.drop (pos l a.name)
def newL (l : List Att) : List Att := l.foldl (fun acc a => putA acc a.canon) []
theorem newL_snoc (l : List Att) (a : Att) : newL (l ++ [a]) = putA (newL l) a.canon := by unfold newL; simp

theorem pos_less {l : List Att} {s : ByteArray} {k : Nat} {x : Att} (hk : k < pos l s) (hx : l[k]? = some x) : Op.bytesLess x.name.data.toList s.data.toList = true := by
  induction l generalizing k with
  | nil => simp at hx
  | cons a l ih =>
    by_cases ha : Op.bytesLess a.name.data.toList s.data.toList = true
    · have hp : pos (a :: l) s = pos l s + 1 := by unfold pos; rw [List.takeWhile_cons, if_pos ha]; rfl
      cases k with
      | zero => cases hx; exact ha
      | succ k => exact ih (k := k) (by omega) (by simpa using hx)
    · have hp : pos (a :: l) s = 0 := by unfold pos; rw [List.takeWhile_cons, if_neg ha]; rfl
      omega
theorem of_take {l : List Att} {n k : Nat} {x : Att} (h : (l.take n)[k]? = some x) : l[k]? = some x ∧ k < n := by
  rw [List.getElem?_take] at h
  split at h
  · exact ⟨h, by assumption⟩
  · cases h
theorem pos_not {l : List Att} (hr : rises l) {s : ByteArray} {k : Nat} {x : Att} (hk : pos l s ≤ k) (hx : l[k]? = some x) : Op.bytesLess x.name.data.toList s.data.toList = false := by
  obtain ⟨y, hy⟩ : ∃ y, l[pos l s]? = some y := ⟨_, List.getElem?_eq_getElem (by have := (List.getElem?_eq_some_iff.1 hx).1; omega)⟩
  have hyn : Op.bytesLess y.name.data.toList s.data.toList = false := by
    clear hk hx hr
    induction l with
    | nil => simp at hy
    | cons a l ih =>
      by_cases ha : Op.bytesLess a.name.data.toList s.data.toList = true
      · have hp : pos (a :: l) s = pos l s + 1 := by unfold pos; rw [List.takeWhile_cons, if_pos ha]; rfl
        rw [hp, List.getElem?_cons_succ] at hy
        exact ih hy
      · have hp : pos (a :: l) s = 0 := by unfold pos; rw [List.takeWhile_cons, if_neg ha]; rfl
        rw [hp, List.getElem?_cons_zero] at hy
        cases hy
        exact Bool.eq_false_iff.2 ha
  rcases Nat.lt_or_eq_of_le hk with h | rfl
  · exact hr.more h hy hx hyn
  · rw [hy] at hx; cases hx; exact hyn

theorem rises_app {l m : List Att} {a : Att} (hl : ∀ (i j : Nat) (x y : Att), i < j → l[i]? = some x → l[j]? = some y → Op.bytesLess x.name.data.toList y.name.data.toList = true)
    (hm : ∀ (i j : Nat) (x y : Att), i < j → m[i]? = some x → m[j]? = some y → Op.bytesLess x.name.data.toList y.name.data.toList = true)
    (h1 : ∀ x ∈ l, Op.bytesLess x.name.data.toList a.name.data.toList = true) (h2 : ∀ y ∈ m, Op.bytesLess a.name.data.toList y.name.data.toList = true) : rises (l ++ a :: m) := by
  intro i j x y hij hx hy
  rcases Nat.lt_or_ge i l.length with hi | hi
  · rw [List.getElem?_append_left hi] at hx
    rcases Nat.lt_or_ge j l.length with hj | hj
    · rw [List.getElem?_append_left hj] at hy
      exact hl i j x y hij hx hy
    · rw [List.getElem?_append_right hj] at hy
      have hxa := h1 x (List.mem_of_getElem? hx)
      rcases Nat.eq_zero_or_pos (j - l.length) with h0 | h0
      · rw [h0] at hy; cases hy; exact hxa
      · obtain ⟨k, hk⟩ : ∃ k, j - l.length = k + 1 := ⟨j - l.length - 1, by omega⟩
        rw [hk, List.getElem?_cons_succ] at hy
        exact less_trans _ _ _ hxa (h2 y (List.mem_of_getElem? hy))
  · rw [List.getElem?_append_right hi] at hx
    rw [List.getElem?_append_right (by omega)] at hy
    obtain ⟨k, hk⟩ : ∃ k, j - l.length = k + 1 := ⟨j - l.length - 1, by omega⟩
    rw [hk, List.getElem?_cons_succ] at hy
    rcases Nat.eq_zero_or_pos (i - l.length) with h0 | h0
    · rw [h0] at hx; cases hx
      exact h2 y (List.mem_of_getElem? hy)
    · obtain ⟨q, hq⟩ : ∃ q, i - l.length = q + 1 := ⟨i - l.length - 1, by omega⟩
      rw [hq, List.getElem?_cons_succ] at hx
      exact hm q k x y (by omega) hx hy

theorem rises.putA {l : List Att} (h : rises l) (a : Att) : rises (putA l a) := by
  have ht : ∀ (i j : Nat) (x y : Att), i < j → (l.take (pos l a.name))[i]? = some x → (l.take (pos l a.name))[j]? = some y → Op.bytesLess x.name.data.toList y.name.data.toList = true := fun i j x y hij hx hy =>
    h i j x y hij (of_take hx).1 (of_take hy).1
  have hd : ∀ (p i j : Nat) (x y : Att), i < j → (l.drop p)[i]? = some x → (l.drop p)[j]? = some y → Op.bytesLess x.name.data.toList y.name.data.toList = true := fun p i j x y hij hx hy => by
    rw [List.getElem?_drop] at hx hy
    exact h _ _ x y (by omega) hx hy
  have h1 : ∀ x ∈ l.take (pos l a.name), Op.bytesLess x.name.data.toList a.name.data.toList = true := fun x hx => by
    obtain ⟨k, hk⟩ := List.mem_iff_getElem?.1 hx
    exact pos_less (of_take hk).2 (of_take hk).1
  unfold Go.Proofs.Ytpfnemkfbelpcaa.putA
  split
  · rename_i hth
    refine rises_app ht (hd _) h1 fun y hy => ?_
    unfold Go.Proofs.Ytpfnemkfbelpcaa.there at hth
    cases hp : l[pos l a.name]? with
    | none => rw [hp] at hth; cases hth
    | some z =>
      rw [hp] at hth
      have hz : z.name.data.toList = a.name.data.toList := beq_iff_eq.1 hth
      obtain ⟨k, hk⟩ := List.mem_iff_getElem?.1 hy
      rw [List.getElem?_drop] at hk
      rw [← hz]
      exact h _ _ z y (by omega) hp hk
  · rename_i hth
    refine rises_app ht (hd _) h1 fun y hy => ?_
    obtain ⟨k, hk⟩ := List.mem_iff_getElem?.1 hy
    rw [List.getElem?_drop] at hk
    have hn := pos_not h (s := a.name) (Nat.le_add_right _ k) hk
    refine less_total _ _ hn fun he => ?_
    rcases Nat.eq_zero_or_pos k with h0 | h0
    · subst h0
      refine hth ?_
      unfold Go.Proofs.Ytpfnemkfbelpcaa.there
      rw [Nat.add_zero] at hk
      rw [hk]
      exact beq_iff_eq.2 he
    · obtain ⟨z, hz⟩ : ∃ z, l[pos l a.name]? = some z := ⟨_, List.getElem?_eq_getElem (by have := (List.getElem?_eq_some_iff.1 hk).1; omega)⟩
      have hzn := pos_not h (s := a.name) (Nat.le_refl _) hz
      have hzl := h _ _ z y (by omega) hz hk
      rw [he] at hzl
      rw [hzn] at hzl
      cases hzl
theorem newL_rises (l : List Att) : rises (newL l) := by
  unfold newL
  suffices ∀ (l acc : List Att), rises acc → rises (l.foldl (fun acc a => putA acc a.canon) acc) from this l [] (fun i j x y _ hx _ => by simp at hx)
  intro l
  induction l with
  | nil => intro acc h; exact h
  | cons a l ih => intro acc h; exact ih _ (h.putA _)
theorem putA_length (l : List Att) (a : Att) : (putA l a).length ≤ l.length + 1 := by
  have := pos_le l a.name
  unfold putA
  split <;> simp <;> omega
theorem newL_length (l : List Att) : (newL l).length ≤ l.length := by
  unfold newL
  suffices ∀ (l acc : List Att), (l.foldl (fun acc a => putA acc a.canon) acc).length ≤ acc.length + l.length by simpa using this l []
  intro l
  induction l with
  | nil => intro acc; simp
  | cons a l ih =>
    intro acc
    have := ih (putA acc a.canon)
    have := putA_length acc a.canon
    simp only [List.foldl_cons, List.length_cons]
    omega

/-- One attribute of a row of our own, written anew. -/
theorem own_puta {w : World} {v : Value} {l m : List Att} {x c : Att} (h : OwnSl w 48 6 v (l ++ x :: m).length (atts (l ++ x :: m))) : ∃ g off cap cur, v = .slice (some ⟨g, off, none⟩) (l ++ x :: m).length cap ∧
    w.heap[g]? = some (.cells cur 48 (0, 0)) ∧ off + l.length * 6 + 6 ≤ cur.size ∧ (l ++ x :: m).length ≤ cap ∧
    OwnSl (w.setRow g (cur.toList.take (off + l.length * 6) ++ c.cells ++ cur.toList.drop (off + l.length * 6 + c.cells.length)).toArray) 48 6 v (l ++ c :: m).length (atts (l ++ c :: m)) := by
  rcases h.2 with ⟨-, h0⟩ | ⟨g, off, cap, cur, hv, hg, hn, hc, hs, ht⟩
  · simp at h0
  have hlen : (l ++ x :: m).length = l.length + 1 + m.length := by simp; omega
  have hlen' : (l ++ c :: m).length = l.length + 1 + m.length := by simp; omega
  have hsz : off + (l.length + 1 + m.length) * 6 ≤ cur.size := by
    have : (l ++ x :: m).length * 6 ≤ cap * 6 := Nat.mul_le_mul_right _ hn
    omega
  refine ⟨g, off, cap, cur, hv, hg, by omega, hn, ⟨by rw [atts_length], .inr ⟨g, off, cap, _, by rw [hv, hlen, hlen'], setRow_heap w g cur _ _ _ hg, by omega, hc, ?_, ?_⟩⟩⟩
  · simp only [List.size_toArray, List.length_append, List.length_take, List.length_drop, Array.length_toList, Att.cells_length]
    omega
  · rw [hlen] at ht
    rw [hlen']
    have hq := list_rep (L := cur.toList) (A := atts l) (X := x.cells) (B := atts m) (C := c.cells) (off := off) (n := (l.length + 1 + m.length) * 6) (by rw [Array.length_toList]; omega) (by rw [ht, atts_append, atts_cons]) rfl (by rw [atts_length, atts_length, Att.cells_length]; omega)
    rw [atts_length] at hq
    rw [atts_append, atts_cons]
    exact hq
end Go.Proofs.Ytpfnemkfbelpcaa
