/-
  value.Same.
  Package event: Same.
  Package event: New.
  Package event: New, walked.
-/
import Derived.Test.YtloplmaekonenaaGreatDoorZi2
import Derived.Test.YtloplmaekonenaaGreatDoorZi12
namespace Go.Proofs.YtloplmaekonenaaGreatDoor
set_option maxRecDepth 20000
open Go.RowKit
theorem same_at2 (x y : Nat) (hx : x < 2 ^ 64) (hy : y < 2 ^ 64) (w : World) :
    Calls Tryz.prog 199 #[.float .f64 x, .float .f64 y] w fun e w' => e = .returned (.bool (keyB x == keyB y)) ∧ w' = w := by
  have Hk1 := Lib.hid (key_at x hx w)
  have Hk2 := Lib.hid (key_at y hy w)
  go_enter Tryz.func199, Tryz.ntmps199
  go_wp2_with fail
  refine Hk1.out.mono ?_
  rintro e w1 ⟨rfl, rfl⟩
  go_wp2_with fail
  refine Hk2.out.mono ?_
  rintro e w2 ⟨rfl, rfl⟩
  go_wp2
  go_ret
  refine ⟨congrArg (fun b => Ending.returned (.bool b)) ?_, rfl⟩
  by_cases h : keyB x = keyB y
  · rw [h]; simp
  · rw [beq_eq_false_iff_ne.2 h, beq_eq_false_iff_ne.2 (by omega)]
def V.same (a b : V) : Bool := a.kind == b.kind && (if a.kind = 0 then a.int == b.int else if a.kind = 1 then keyB a.num == keyB b.num else if a.kind = 2 then a.text.toList == b.text.toList else a.yes == b.yes)
theorem value_same (a b : V) (ha : a.num < 2 ^ 64) (hb : b.num < 2 ^ 64) (w : World) :
    Calls Tryz.prog 165 #[.agg a.cells.toArray, .agg b.cells.toArray] w fun e w' => e = .returned (.bool (V.same a b)) ∧ Mod (fun _ => False) w w' := by
  obtain ⟨k1, i1, n1, t1, y1⟩ := a
  obtain ⟨k2, i2, n2, t2, y2⟩ := b
  have hsm := fun w => same_at2 n1 n2 ha hb w
  have Hsm := Lib.hid hsm
  have hm2 : ∀ A B : Obj, Mod (fun _ => False) w ((w.alloc A).alloc B) := fun A B => ((Mod.refl _ w).alloc _).alloc _
  have Hm2 := Lib.hid hm2
  clear hsm hm2 ha hb
  unfold V.cells V.same
  by_cases hk : k1 = k2
  · subst hk
    have hkk : (k1 == k1) = true := by simp
    simp only [hkk, Bool.true_and]
    rcases (by omega : k1 = 0 ∨ k1 = 1 ∨ k1 = 2 ∨ (k1 ≠ 0 ∧ k1 ≠ 1 ∧ k1 ≠ 2)) with h | h | h | ⟨h0, h1, h2⟩
    · subst h
      rw [if_pos rfl]
      go_enter Tryz.func165, Tryz.ntmps165
      go_wp2
      go_ret
      exact ⟨rfl, Hm2.out _ _⟩
    · subst h
      rw [if_neg (by decide), if_pos rfl]
      go_enter Tryz.func165, Tryz.ntmps165
      go_wp2_with fail
      refine (Hsm.out _).mono ?_
      rintro e w2 ⟨rfl, rfl⟩
      go_wp2
      go_ret
      exact ⟨rfl, Hm2.out _ _⟩
    · subst h
      rw [if_neg (by decide), if_neg (by decide), if_pos rfl]
      go_enter Tryz.func165, Tryz.ntmps165
      go_wp2
      go_ret
      exact ⟨rfl, Hm2.out _ _⟩
    · rw [if_neg h0, if_neg h1, if_neg h2]
      go_enter Tryz.func165, Tryz.ntmps165
      go_wp2
      go_ret
      exact ⟨rfl, Hm2.out _ _⟩
  · have hkk : (k1 == k2) = false := beq_eq_false_iff_ne.2 hk
    have hkn : (k1 != k2) = true := by simp [bne, hkk]
    simp only [hkk, Bool.false_and]
    go_enter Tryz.func165, Tryz.ntmps165
    go_wp2
    go_ret
    exact ⟨rfl, Hm2.out _ _⟩
end Go.Proofs.YtloplmaekonenaaGreatDoor
namespace Go.Proofs.YtloplmaekonenaaGreatDoor
set_option maxRecDepth 20000
open Go.RowKit
def Att.same (a b : Att) : Bool := a.name.toList == b.name.toList && V.same a.v b.v
end Go.Proofs.YtloplmaekonenaaGreatDoor
namespace Go.Proofs.YtloplmaekonenaaGreatDoor
set_option maxRecDepth 20000
open Go.RowKit
def Att.canon (a : Att) : Att := ⟨a.name, a.v.canon⟩
def putA (l : List Att) (a : Att) : List Att := if there l a.name = true then l.take (pos l a.name) ++ a :: l.drop (pos l a.name + 1) else l.take (pos l a.name) ++ a :: l.drop (pos l a.name)
def newL (l : List Att) : List Att := l.foldl (fun acc a => putA acc a.canon) []
theorem newL_snoc (l : List Att) (a : Att) : newL (l ++ [a]) = putA (newL l) a.canon := by unfold newL; simp
theorem pos_less {l : List Att} {s : ByteArray} {k : Nat} {x : Att} (hk : k < pos l s) (hx : l[k]? = some x) : Op.bytesLess x.name.data.toList s.data.toList = true := by
  induction l generalizing k with
  | nil => simp at hx
  | cons a l ih =>
    by_cases ha : Op.bytesLess a.name.data.toList s.data.toList = true
    · have hp : pos (a :: l) s = pos l s + 1 := by unfold pos; rw [List.takeWhile_cons, if_pos ha]; rfl
      cases k with
      | zero => cases hx; exact ha
      | succ k => exact ih (k := k) (by omega) (by simpa using hx)
    · have hp : pos (a :: l) s = 0 := by unfold pos; rw [List.takeWhile_cons, if_neg ha]; rfl
      omega
theorem of_take {l : List Att} {n k : Nat} {x : Att} (h : (l.take n)[k]? = some x) : l[k]? = some x ∧ k < n := by
  rw [List.getElem?_take] at h
  split at h
  · exact ⟨h, by assumption⟩
  · cases h
theorem pos_not {l : List Att} (hr : rises l) {s : ByteArray} {k : Nat} {x : Att} (hk : pos l s ≤ k) (hx : l[k]? = some x) : Op.bytesLess x.name.data.toList s.data.toList = false := by
  obtain ⟨y, hy⟩ : ∃ y, l[pos l s]? = some y := ⟨_, List.getElem?_eq_getElem (by have := (List.getElem?_eq_some_iff.1 hx).1; omega)⟩
  have hyn : Op.bytesLess y.name.data.toList s.data.toList = false := by
    clear hk hx hr
    induction l with
    | nil => simp at hy
    | cons a l ih =>
      by_cases ha : Op.bytesLess a.name.data.toList s.data.toList = true
      · have hp : pos (a :: l) s = pos l s + 1 := by unfold pos; rw [List.takeWhile_cons, if_pos ha]; rfl
        rw [hp, List.getElem?_cons_succ] at hy
        exact ih hy
      · have hp : pos (a :: l) s = 0 := by unfold pos; rw [List.takeWhile_cons, if_neg ha]; rfl
        rw [hp, List.getElem?_cons_zero] at hy
        cases hy
        exact Bool.eq_false_iff.2 ha
  rcases Nat.lt_or_eq_of_le hk with h | rfl
  · exact hr.more h hy hx hyn
  · rw [hy] at hx; cases hx; exact hyn
theorem rises_app {l m : List Att} {a : Att} (hl : ∀ (i j : Nat) (x y : Att), i < j → l[i]? = some x → l[j]? = some y → Op.bytesLess x.name.data.toList y.name.data.toList = true)
    (hm : ∀ (i j : Nat) (x y : Att), i < j → m[i]? = some x → m[j]? = some y → Op.bytesLess x.name.data.toList y.name.data.toList = true)
    (h1 : ∀ x ∈ l, Op.bytesLess x.name.data.toList a.name.data.toList = true) (h2 : ∀ y ∈ m, Op.bytesLess a.name.data.toList y.name.data.toList = true) : rises (l ++ a :: m) := by
  intro i j x y hij hx hy
  rcases Nat.lt_or_ge i l.length with hi | hi
  · rw [List.getElem?_append_left hi] at hx
    rcases Nat.lt_or_ge j l.length with hj | hj
    · rw [List.getElem?_append_left hj] at hy
      exact hl i j x y hij hx hy
    · rw [List.getElem?_append_right hj] at hy
      have hxa := h1 x (List.mem_of_getElem? hx)
      rcases Nat.eq_zero_or_pos (j - l.length) with h0 | h0
      · rw [h0] at hy; cases hy; exact hxa
      · obtain ⟨k, hk⟩ : ∃ k, j - l.length = k + 1 := ⟨j - l.length - 1, by omega⟩
        rw [hk, List.getElem?_cons_succ] at hy
        exact less_trans _ _ _ hxa (h2 y (List.mem_of_getElem? hy))
  · rw [List.getElem?_append_right hi] at hx
    rw [List.getElem?_append_right (by omega)] at hy
    obtain ⟨k, hk⟩ : ∃ k, j - l.length = k + 1 := ⟨j - l.length - 1, by omega⟩
    rw [hk, List.getElem?_cons_succ] at hy
    rcases Nat.eq_zero_or_pos (i - l.length) with h0 | h0
    · rw [h0] at hx; cases hx
      exact h2 y (List.mem_of_getElem? hy)
    · obtain ⟨q, hq⟩ : ∃ q, i - l.length = q + 1 := ⟨i - l.length - 1, by omega⟩
      rw [hq, List.getElem?_cons_succ] at hx
      exact hm q k x y (by omega) hx hy
theorem rises.putA {l : List Att} (h : rises l) (a : Att) : rises (putA l a) := by
  have ht : ∀ (i j : Nat) (x y : Att), i < j → (l.take (pos l a.name))[i]? = some x → (l.take (pos l a.name))[j]? = some y → Op.bytesLess x.name.data.toList y.name.data.toList = true := fun i j x y hij hx hy =>
    h i j x y hij (of_take hx).1 (of_take hy).1
  have hd : ∀ (p i j : Nat) (x y : Att), i < j → (l.drop p)[i]? = some x → (l.drop p)[j]? = some y → Op.bytesLess x.name.data.toList y.name.data.toList = true := fun p i j x y hij hx hy => by
    rw [List.getElem?_drop] at hx hy
    exact h _ _ x y (by omega) hx hy
  have h1 : ∀ x ∈ l.take (pos l a.name), Op.bytesLess x.name.data.toList a.name.data.toList = true := fun x hx => by
    obtain ⟨k, hk⟩ := List.mem_iff_getElem?.1 hx
    exact pos_less (of_take hk).2 (of_take hk).1
  unfold Go.Proofs.YtloplmaekonenaaGreatDoor.putA
  split
  · rename_i hth
    refine rises_app ht (hd _) h1 fun y hy => ?_
    unfold Go.Proofs.YtloplmaekonenaaGreatDoor.there at hth
    cases hp : l[pos l a.name]? with
    | none => rw [hp] at hth; cases hth
    | some z =>
      rw [hp] at hth
      have hz : z.name.data.toList = a.name.data.toList := beq_iff_eq.1 hth
      obtain ⟨k, hk⟩ := List.mem_iff_getElem?.1 hy
      rw [List.getElem?_drop] at hk
      rw [← hz]
      exact h _ _ z y (by omega) hp hk
  · rename_i hth
    refine rises_app ht (hd _) h1 fun y hy => ?_
    obtain ⟨k, hk⟩ := List.mem_iff_getElem?.1 hy
    rw [List.getElem?_drop] at hk
    have hn := pos_not h (s := a.name) (Nat.le_add_right _ k) hk
    refine less_total _ _ hn fun he => ?_
    rcases Nat.eq_zero_or_pos k with h0 | h0
    · subst h0
      refine hth ?_
      unfold Go.Proofs.YtloplmaekonenaaGreatDoor.there
      rw [Nat.add_zero] at hk
      rw [hk]
      exact beq_iff_eq.2 he
    · obtain ⟨z, hz⟩ : ∃ z, l[pos l a.name]? = some z := ⟨_, List.getElem?_eq_getElem (by have := (List.getElem?_eq_some_iff.1 hk).1; omega)⟩
      have hzn := pos_not h (s := a.name) (Nat.le_refl _) hz
      have hzl := h _ _ z y (by omega) hz hk
      rw [he] at hzl
      rw [hzn] at hzl
      cases hzl
theorem newL_rises (l : List Att) : rises (newL l) := by
  unfold newL
  suffices ∀ (l acc : List Att), rises acc → rises (l.foldl (fun acc a => putA acc a.canon) acc) from this l [] (fun i j x y _ hx _ => by simp at hx)
  intro l
  induction l with
  | nil => intro acc h; exact h
  | cons a l ih => intro acc h; exact ih _ (h.putA _)
theorem putA_length (l : List Att) (a : Att) : (putA l a).length ≤ l.length + 1 := by
  have := pos_le l a.name
  unfold putA
  split <;> simp <;> omega
theorem newL_length (l : List Att) : (newL l).length ≤ l.length := by
  unfold newL
  suffices ∀ (l acc : List Att), (l.foldl (fun acc a => putA acc a.canon) acc).length ≤ acc.length + l.length by simpa using this l []
  intro l
  induction l with
  | nil => intro acc; simp
  | cons a l ih =>
    intro acc
    have := ih (putA acc a.canon)
    have := putA_length acc a.canon
    simp only [List.foldl_cons, List.length_cons]
    omega
theorem own_puta {w : World} {v : Value} {l m : List Att} {x c : Att} (h : OwnSl w 90 6 v (l ++ x :: m).length (atts (l ++ x :: m))) : ∃ g off cap cur, v = .slice (some ⟨g, off, none⟩) (l ++ x :: m).length cap ∧
    w.heap[g]? = some (.cells cur 90 (0, 0)) ∧ off + l.length * 6 + 6 ≤ cur.size ∧ (l ++ x :: m).length ≤ cap ∧
    OwnSl (w.setRow g (cur.toList.take (off + l.length * 6) ++ c.cells ++ cur.toList.drop (off + l.length * 6 + c.cells.length)).toArray) 90 6 v (l ++ c :: m).length (atts (l ++ c :: m)) := by
  rcases h.2 with ⟨-, h0⟩ | ⟨g, off, cap, cur, hv, hg, hn, hc, hs, ht⟩
  · simp at h0
  have hlen : (l ++ x :: m).length = l.length + 1 + m.length := by simp; omega
  have hlen' : (l ++ c :: m).length = l.length + 1 + m.length := by simp; omega
  have hsz : off + (l.length + 1 + m.length) * 6 ≤ cur.size := by
    have : (l ++ x :: m).length * 6 ≤ cap * 6 := Nat.mul_le_mul_right _ hn
    omega
  refine ⟨g, off, cap, cur, hv, hg, by omega, hn, ⟨by rw [atts_length], .inr ⟨g, off, cap, _, by rw [hv, hlen, hlen'], setRow_heap w g cur _ _ _ hg, by omega, hc, ?_, ?_⟩⟩⟩
  · simp only [List.size_toArray, List.length_append, List.length_take, List.length_drop, Array.length_toList, Att.cells_length]
    omega
  · rw [hlen] at ht
    rw [hlen']
    have hq := list_rep (L := cur.toList) (A := atts l) (X := x.cells) (B := atts m) (C := c.cells) (off := off) (n := (l.length + 1 + m.length) * 6) (by rw [Array.length_toList]; omega) (by rw [ht, atts_append, atts_cons]) rfl (by rw [atts_length, atts_length, Att.cells_length]; omega)
    rw [atts_length] at hq
    rw [atts_append, atts_cons]
    exact hq
end Go.Proofs.YtloplmaekonenaaGreatDoor
namespace Go.Proofs.YtloplmaekonenaaGreatDoor
set_option maxRecDepth 20000
open Go.RowKit
theorem heap_drop0 {w : World} {b : Nat} {o : Obj} (h : w.heap[b]? = some o) (v : Value) : (w.setCell ⟨b + 1, 1, none⟩ v).heap[b]? = some o :=
  ((Mod.refl (fun k => k = b + 1) w).setCell (fun _ => rfl) _).heap h (by omega)
theorem heap_drop1 {w : World} {b : Nat} {x y : Value} {t : TypeId} {a7 : Option Addr} {n m c7 : Nat} (h : w.heap[b]? = some (.cells #[x, y] t (0, 0))) (hl : n = m) : (w.setCell ⟨b, 1, none⟩ (.slice a7 m c7)).heap[b]? = some (.cells #[x, .slice a7 n c7] t (0, 0)) := by
  subst hl
  exact heap_set h
set_option maxRecDepth 20000 in
set_option maxHeartbeats 8000000 in
theorem new_at (w : World) (sc : ByteArray) (lv : Value) (l : List Att) (hv : RdSl w 6 lv l.length (atts l)) (hll : l.length ≤ 1000) :
    Calls Tryz.prog 44 #[.string sc, lv] w fun e w' => ∃ av, e = .returned (.agg #[.string sc, av]) ∧ OwnSl w' 90 6 av (newL l).length (atts (newL l)) ∧
      (∀ b, av.ownBlock = some b → w.heap.size ≤ b) ∧ Mod (fun _ => False) w w' := by
  obtain ⟨a, cap, rfl⟩ : ∃ a c, lv = .slice a l.length c := by obtain ⟨-, a, c, h, -⟩ := hv; exact ⟨a, c, h⟩
  have hll' : (l.length : Int) ≤ 1000 := by omega
  obtain ⟨wa, hwa⟩ : ∃ wa : World, w.alloc (.cells #[.string ⟨#[]⟩, .slice none 0 0] 32) = wa := ⟨_, rfl⟩
  have hmwa : Mod (fun _ => False) w wa := hwa ▸ (Mod.refl (fun _ => False) w).alloc _
  have hgwa := heap_alloc_new w (.cells #[.string ⟨#[]⟩, .slice none 0 0] 32)
  rw [hwa] at hgwa
  have hzwa : wa.heap.size = w.heap.size + 1 := by rw [← hwa]; simp
  obtain ⟨wb, hwb⟩ : ∃ wb : World, wa.alloc (.cells #[.string sc, .slice none 0 0] 32) = wb := ⟨_, rfl⟩
  have hmwb : Mod (fun _ => False) wa wb := hwb ▸ (Mod.refl (fun _ => False) wa).alloc _
  have hgwb := heap_alloc_new wa (.cells #[.string sc, .slice none 0 0] 32)
  rw [hwb] at hgwb
  have hzwb : wb.heap.size = wa.heap.size + 1 := by rw [← hwb]; simp
  have hmb : Mod (fun _ => False) w wb := hmwa.trans hmwb (fun _ _ h => h)
  have hgR := hmwb.heap hgwa (fun h => h)
  have hgE := hgwb
  rw [hzwa] at hgE
  have hcap : (l.length : Int) ≤ cap := by obtain ⟨-, a', c', h1, h2, -⟩ := hv; cases h1; omega
  have Hv := Lib.hid hv
  have Hwa := Lib.hid hwa
  have Hwb := Lib.hid hwb
  have Hmb := Lib.hid hmb
  have HgR := Lib.hid hgR
  have HgE := Lib.hid hgE
  have Hmwa := Lib.hid hmwa
  have Hmwb := Lib.hid hmwb
  have Hgwa := Lib.hid hgwa
  have Hgwb := Lib.hid hgwb
  have Hzwa := Lib.hid hzwa
  have Hzwb := Lib.hid hzwb
  clear hv hwa hwb hmb hgR hgE hmwa hmwb hgwa hgwb hzwa hzwb
  go_enter Tryz.func44, Tryz.ntmps44
  go_wp2_with fail
  rw [Hwa.out, Hwb.out]
  have hlw : w.heap.size + 2 ≤ wb.heap.size := by rw [Hzwb.out, Hzwa.out]; exact Nat.le_refl _
  go_loopw [14] (fun i wr => ∃ j : Nat, ∃ av acc, i = .int .i64 j ∧ j ≤ l.length ∧ acc = newL (l.take j) ∧ wr.heap[w.heap.size]? = some (.cells #[.string ⟨#[]⟩, .slice none 0 0] 32 (0, 0)) ∧
      wr.heap[w.heap.size + 1]? = some (.cells #[.string sc, av] 32 (0, 0)) ∧ OwnSl wr 90 6 av acc.length (atts acc) ∧ (∀ b, av.ownBlock = some b → w.heap.size + 2 ≤ b) ∧ Mod (fun _ => False) w wr ∧ wb.heap.size ≤ wr.heap.size) (fun i _ => l.length - (intOf i).toNat)
  case atStart => exact ⟨0, .slice none 0 0, [], rfl, Nat.zero_le _, rfl, HgR.out, HgE.out, OwnSl.nil _ _ _, (fun b hb => by cases hb), Hmb.out, Nat.le_refl _⟩
  case round =>
    obtain ⟨j, av, acc, rfl, hj, hacc, hR, hE, hown, hfr, hmr, hsz⟩ := hrel
    by_cases hlt : j < l.length
    · have hlt' : (j : Int) < l.length := by omega
      obtain ⟨x, hxj⟩ : ∃ x, l[j]? = some x := ⟨_, List.getElem?_eq_getElem hlt⟩
      have hal : acc.length ≤ 1000 := by
        have := newL_length (l.take j)
        rw [hacc]
        rw [List.length_take] at this
        omega
      have hrise : rises acc := hacc ▸ newL_rises _
      have hnext : newL (l.take (j + 1)) = putA acc x.canon := by rw [List.take_add_one, hxj, hacc]; exact newL_snoc _ _
      obtain ⟨g, off, rfl, hf⟩ : ∃ g off, a = some ⟨g, off, none⟩ ∧ CellsAt wr g (off + j * 6) x.cells := by
        obtain ⟨-, a', c', h1, -, h3, h4⟩ := Hv.out.mod hmr (fun _ _ h => h)
        cases h1
        cases a with
        | none => exact absurd (h3 rfl) (by omega)
        | some b =>
          obtain ⟨g', off', h5, h6⟩ := h4 _ rfl (by omega)
          refine ⟨g', off', by rw [h5], fun i u hu => ?_⟩
          have := h6 (6 * j + i) u (atts_at _ hxj hu)
          rw [show off' + j * 6 + i = off' + (6 * j + i) by omega]
          exact this
      have a0 : wr.cell? ⟨g, off + j * 6, none⟩ = some (.string x.name) := hf 0 _ rfl
      have a1 : wr.cell? ⟨g, off + j * 6 + 1, none⟩ = some (.int .i64 x.v.kind) := hf 1 _ rfl
      have a2 : wr.cell? ⟨g, off + j * 6 + 2, none⟩ = some (.int .i64 x.v.int) := hf 2 _ rfl
      have a3 : wr.cell? ⟨g, off + j * 6 + 3, none⟩ = some (.float .f64 x.v.num) := hf 3 _ rfl
      have a4 : wr.cell? ⟨g, off + j * 6 + 4, none⟩ = some (.string x.v.text) := hf 4 _ rfl
      have a5 : wr.cell? ⟨g, off + j * 6 + 5, none⟩ = some (.bool x.v.yes) := hf 5 _ rfl
      obtain ⟨wz, hwz⟩ : ∃ wz : World, wr.alloc (.cells x.cells.toArray 90) = wz := ⟨_, rfl⟩
      have hmwz : Mod (fun _ => False) wr wz := hwz ▸ (Mod.refl (fun _ => False) wr).alloc _
      have hgwz := heap_alloc_new wr (.cells x.cells.toArray 90)
      rw [hwz] at hgwz
      have hzwz : wz.heap.size = wr.heap.size + 1 := by rw [← hwz]; simp
      have z1 : wz.cell? ⟨wr.heap.size, 1, none⟩ = some (.int .i64 x.v.kind) := cell_of hgwz rfl
      have z2 : wz.cell? ⟨wr.heap.size, 2, none⟩ = some (.int .i64 x.v.int) := cell_of hgwz rfl
      have z3 : wz.cell? ⟨wr.heap.size, 3, none⟩ = some (.float .f64 x.v.num) := cell_of hgwz rfl
      have z4 : wz.cell? ⟨wr.heap.size, 4, none⟩ = some (.string x.v.text) := cell_of hgwz rfl
      have z5 : wz.cell? ⟨wr.heap.size, 5, none⟩ = some (.bool x.v.yes) := cell_of hgwz rfl
      have hqz : wr.heap.size < wz.heap.size := by omega
      have Hxj := Lib.hid hxj
      have Hacc := Lib.hid hacc
      have Hrise := Lib.hid hrise
      have Hnext := Lib.hid hnext
      have Hf := Lib.hid hf
      have HR := Lib.hid hR
      have HE := Lib.hid hE
      have Hown := Lib.hid hown
      have Hfr := Lib.hid hfr
      have Hmr := Lib.hid hmr
      have Hwz := Lib.hid hwz
      have Hmwz := Lib.hid hmwz
      have Hgwz := Lib.hid hgwz
      have Hzwz := Lib.hid hzwz
      clear hxj hacc hrise hnext hf hR hE hown hfr hmr hwz hmwz hgwz hzwz
      go_wp2_with (first | ((with_reducible refine wpList_store_lit 90 (.tmp 7) (.tmp 17) ?_); refine ⟨rfl, x.cells, rfl, rfl, by kernel_rfl, rfl, ?_⟩; rw [Hwz.out]) | fail)
      refine (value_canon x.v wz).mono ?_
      rintro e w3 ⟨rfl, hm3⟩
      have hgz3 := hm3.heap Hgwz.out (fun h => h)
      have hmr3 := Hmwz.out.trans hm3 (fun _ _ h => h)
      have hE3 := hmr3.heap HE.out (fun h => h)
      have hR3 := hmr3.heap HR.out (fun h => h)
      have hown3 := Hown.out.mod hmr3 (fun _ _ h => h)
      obtain ⟨aa, ac, rfl, hac⟩ := hown3.shape
      have hac' : (acc.length : Int) ≤ ac := by omega
      have hz3 := hmr3.size
      have Hgz3 := Lib.hid hgz3
      have Hmr3 := Lib.hid hmr3
      have HE3 := Lib.hid hE3
      have HR3 := Lib.hid hR3
      have Hown3 := Lib.hid hown3
      clear hgz3 hmr3 hE3 hR3 hown3 hm3 z1 z2 z3 z4 z5 a0 a1 a2 a3 a4 a5
      go_wp2_with (first | ((with_reducible refine wpList_store_part_lit 79 (.tmp 21) (.tmp 20) ?_); refine ⟨wr.heap.size, 1, rfl, _, _, Hgz3.out, x.v.canon.cells, rfl, Nat.le_refl 6, by kernel_rfl, rfl, ?_⟩; intro w4 he4 hm4; have hgz4 : w4.heap[wr.heap.size]? = some (.cells x.canon.cells.toArray 90 (0, 0)) := he4 ▸ setRow_heap w3 wr.heap.size _ _ _ _ Hgz3.out; have hE4 := hm4.heap HE3.out (by omega); have e0 : w4.cell? ⟨w.heap.size + 1, 0, none⟩ = some (.string sc) := cell_of hE4 rfl; have e1 : w4.cell? ⟨w.heap.size + 1, 1, none⟩ = some (.slice aa acc.length ac) := cell_of hE4 rfl; have n0 : w4.cell? ⟨wr.heap.size, 0, none⟩ = some (.string x.name) := cell_of hgz4 rfl; have Hm4 := Lib.hid hm4; have Hgz4 := Lib.hid hgz4; have HE4 := Lib.hid hE4; clear he4 hm4 hgz4 hE4) | fail)
      have hfr4 : ∀ b, (Value.slice aa acc.length ac).ownBlock = some b → b ≠ wr.heap.size := fun b hb => by have := Hown.out.lt b hb; omega
      have hown4 := Hown3.out.mod Hm4.out hfr4
      have hm04 : Mod (fun _ => False) w w4 := (Hmr.out.trans Hmr3.out (fun _ _ h => h)).upon Hm4.out (fun b hb => .inr (by have := Hmr.out.size; omega))
      have hR4 := Hm4.out.heap HR3.out (by omega)
      refine (find_at w4 sc (.slice aa acc.length ac) acc hown4.rd (by omega) Hrise.out x.name).mono ?_
      rintro e w5 ⟨rfl, hm5⟩
      have hp := pos_le acc x.name
      have hE5 := hm5.heap HE4.out (fun h => h)
      have hR5 := hm5.heap hR4 (fun h => h)
      have hgz5 := hm5.heap Hgz4.out (fun h => h)
      have hown5 := hown4.mod hm5 (fun _ _ h => h)
      have hm05 := hm04.trans hm5 (fun _ _ h => h)
      have hz5 : wr.heap.size < w5.heap.size := (Array.getElem?_eq_some_iff.1 hgz5).1
      have e1 : w5.cell? ⟨w.heap.size + 1, 1, none⟩ = some (.slice aa acc.length ac) := cell_of hE5 rfl
      have hput : putA acc x.canon = if there acc x.name = true then acc.take (pos acc x.name) ++ x.canon :: acc.drop (pos acc x.name + 1) else acc.take (pos acc x.name) ++ x.canon :: acc.drop (pos acc x.name) := rfl
      have hfr5 := Hfr.out
      have htl : there acc x.name = true → pos acc x.name < acc.length := fun h => by
        unfold there at h
        split at h
        · rename_i hq; exact (List.getElem?_eq_some_iff.1 hq).1
        · cases h
      obtain ⟨p, hpp⟩ : ∃ p, pos acc x.name = p := ⟨_, rfl⟩
      rw [hpp] at hput hp htl ⊢
      have Hpp := Lib.hid hpp
      have Hput := Lib.hid hput
      have Htl := Lib.hid htl
      have Hfr5 := Lib.hid hfr5
      have HE5 := Lib.hid hE5
      have HR5 := Lib.hid hR5
      have Hgz5 := Lib.hid hgz5
      have Hown5 := Lib.hid hown5
      have Hm05 := Lib.hid hm05
      have Hfr4 := Lib.hid hfr4
      clear hpp hput htl hfr5 hE5 hR5 hgz5 hown5 hm05 hfr4 hm5 e0 n0 hown4 hm04 hR4 HE4 Hgz4 Hm4 HE3 HR3 Hown3 Hgz3
      cases hth : there acc x.name with
      | true =>
        have hpl := Htl.out hth
        have hpl' : (p : Int) < acc.length := by omega
        obtain ⟨y, hy⟩ : ∃ y, acc[p]? = some y := ⟨_, List.getElem?_eq_getElem hpl⟩
        have hsp : acc = acc.take p ++ y :: acc.drop (p + 1) := by
          conv => lhs; rw [← List.take_append_drop p acc, List.drop_eq_getElem_cons hpl]
          rw [List.getElem?_eq_getElem hpl] at hy
          cases hy; rfl
        have hown6 := Hown5.out
        rw [hsp] at hown6
        have hl6 : (acc.take p ++ y :: acc.drop (p + 1)).length = acc.length := by rw [← hsp]
        obtain ⟨gq, offq, capq, cur, hq1, hq2, hq3, hq4, hq5⟩ := own_puta (c := x.canon) (show OwnSl w5 90 6 (.slice aa acc.length ac) (acc.take p ++ y :: acc.drop (p + 1)).length _ by rw [hl6]; rw [hl6] at hown6; exact hown6)
        have hlt6 : (acc.take p).length = p := by rw [List.length_take]; omega
        have hl7 : (acc.take p ++ x.canon :: acc.drop (p + 1)).length = acc.length := by rw [← hl6]; simp
        rw [hl6] at hq1 hq4
        cases hq1
        rw [hlt6, hl7] at hq5
        rw [hlt6] at hq3
        have Hput0 := Hput.out
        rw [hth, if_pos rfl] at Hput0
        have hfg := Hfr5.out gq rfl
        have Hq2 := Lib.hid hq2
        have Hq3 := Lib.hid hq3
        have Hq5 := Lib.hid hq5
        have Hl7 := Lib.hid hl7
        have Hy := Lib.hid hy
        clear hq2 hq3 hq5 hl7 hy hsp hl6 hown6 hlt6
        go_wp2_with (first | ((with_reducible refine wpList_load_lit 90 (.tmp 7) ?_); refine ⟨wr.heap.size, 0, rfl, x.canon.cells, CellsAt.row Hgz5.out, by kernel_rfl, by kernel_rfl, ?_⟩) | ((with_reducible refine wpList_store_part_lit 90 (.tmp 34) (.tmp 33) ?_); refine ⟨gq, offq + p * 6, rfl, _, _, Hq2.out, x.canon.cells, rfl, Hq3.out, by kernel_rfl, rfl, ?_⟩; intro w6 he6 hm6; have He6 := Lib.hid he6; have Hm6 := Lib.hid hm6; clear he6 hm6) | fail)
        have hown6 := Hq5.out
        rw [← He6.out] at hown6
        have hE6 := Hm6.out.heap HE5.out (by omega)
        have hR6 := Hm6.out.heap HR5.out (by omega)
        have hm06 : Mod (fun _ => False) w w6 := Hm05.out.upon Hm6.out (fun b hb => .inr (by omega))
        have hs6 : wb.heap.size ≤ w6.heap.size := by have := Hm6.out.size; omega
        rw [← Hput0, ← Hnext.out] at hown6
        have hl8 : (newL (l.take (j + 1))).length = acc.length := by rw [Hnext.out, Hput0, Hl7.out]
        rw [← hl8] at hE6
        rw [← hl8] at hown6
        have Hown6 := Lib.hid hown6
        have HE6 := Lib.hid hE6
        have HR6 := Lib.hid hR6
        have Hm06 := Lib.hid hm06
        have Hs6 := Lib.hid hs6
        have Hl8 := Lib.hid hl8
        have Hfg := Lib.hid hfg
        clear hown6 hE6 hR6 hm06 hs6 hl8 hfg
        go_wp2_with fail
        go_roundw
        all_goals first
          | exact ⟨j + 1, _, _, by go_num, hlt, rfl, HR6.out, HE6.out, Hown6.out, fun b hb => (by cases hb; exact Hfg.out), Hm06.out, Hs6.out⟩
          | (simp [intOf]; omega)
      | false =>
        have Hput0 := Hput.out
        rw [hth, if_neg (by decide)] at Hput0
        obtain ⟨w6, hw6⟩ : ∃ w6 : World, w5.alloc (.cells x.canon.cells.toArray 90) = w6 := ⟨_, rfl⟩
        have hmw6 : Mod (fun _ => False) w5 w6 := hw6 ▸ (Mod.refl (fun _ => False) w5).alloc _
        have hgw6 := heap_alloc_new w5 (.cells x.canon.cells.toArray 90)
        rw [hw6] at hgw6
        have hzw6 : w6.heap.size = w5.heap.size + 1 := by rw [← hw6]; simp
        have hw6' : w5.alloc (.cells #[.string x.name, .int .i64 x.v.canon.kind, .int .i64 x.v.canon.int, .float .f64 x.v.canon.num, .string x.v.canon.text, .bool x.v.canon.yes] 90) = w6 := hw6
        have hown6 := Hown5.out.mod hmw6 (fun _ _ h => h)
        have hE6 := hmw6.heap HE5.out (fun h => h)
        have hR6 := hmw6.heap HR5.out (fun h => h)
        have hm06 := Hm05.out.trans hmw6 (fun _ _ h => h)
        have hins := insert_at w6 (.slice aa acc.length ac) acc p x.canon hown6 hp (by omega) w5.heap.size hgw6 (fun b hb => by have := Hown5.out.lt b hb; omega)
        have Hins := Lib.hid hins
        have Hown6 := Lib.hid hown6
        have HE6 := Lib.hid hE6
        have HR6 := Lib.hid hR6
        have Hm06 := Lib.hid hm06
        clear hins hown6 hE6 hR6 hm06 hw6 hmw6 hgw6
        have Hw6 := Lib.hid hw6'
        clear hw6'
        go_wp2_with (first | ((with_reducible refine wpList_load_lit 90 (.tmp 7) ?_); refine ⟨wr.heap.size, 0, rfl, [.string x.name, .int .i64 x.v.canon.kind, .int .i64 x.v.canon.int, .float .f64 x.v.canon.num, .string x.v.canon.text, .bool x.v.canon.yes], CellsAt.row Hgz5.out, by kernel_rfl, by kernel_rfl, ?_⟩) | fail)
        rw [Hw6.out]
        refine Hins.out.mono ?_
        rintro e w7 ⟨v', rfl, hA⟩
        have hne7 : ∀ b, inBlock (.slice aa acc.length ac) b → b ≠ w.heap.size + 1 ∧ b ≠ w.heap.size := fun b hb => by have := Hfr5.out b hb; omega
        have hE7 := hA.2.1.heap HE6.out (fun h => (hne7 _ h).1 rfl)
        have hR7 := hA.2.1.heap HR6.out (fun h => (hne7 _ h).2 rfl)
        have hm07 : Mod (fun _ => False) w w7 := Hm06.out.upon hA.2.1 (fun b hb => .inr (by have := Hfr5.out b hb; omega))
        have hown7 := hA.1
        obtain ⟨a7, c7, rfl, -⟩ := hown7.shape
        have hfr7 : ∀ b, (Value.slice a7 (acc.length + 1) c7).ownBlock = some b → w.heap.size + 2 ≤ b := fun b hb => by
          rcases hA.2.2 with h | ⟨k, h, hk⟩
          · exact Hfr5.out b (by rw [← h]; exact hb)
          · rw [h] at hb; cases hb
            have := Hm06.out.size
            have := Hm05.out.size
            omega
        have e1 : w7.cell? ⟨w.heap.size + 1, 1, none⟩ = some (.slice aa acc.length ac) := cell_of hE7 rfl
        have f1 : w7.frozen? ⟨w.heap.size + 1, 1, none⟩ = false := fr_of hE7
        have hs7 : wb.heap.size ≤ w7.heap.size := by have := hA.2.1.size; omega
        have hl8 : (newL (l.take (j + 1))).length = acc.length + 1 := by
          rw [Hnext.out, Hput0]
          simp only [List.length_append, List.length_cons, List.length_take, List.length_drop]
          omega
        rw [← Hput0, ← Hnext.out, ← hl8] at hown7
        rw [← hl8] at hfr7
        have Hown7 := Lib.hid hown7
        have HE7 := Lib.hid hE7
        have HR7 := Lib.hid hR7
        have Hm07 := Lib.hid hm07
        have Hfr7 := Lib.hid hfr7
        have Hs7 := Lib.hid hs7
        have Hl8 := Lib.hid hl8
        clear hown7 hE7 hR7 hm07 hfr7 hs7 hl8 hA hne7
        go_wp2_with fail
        go_roundw
        case rel =>
          refine ⟨j + 1, .slice a7 (newL (l.take (j + 1))).length c7, _, by go_num, hlt, rfl, heap_drop0 HR7.out _, heap_drop1 HE7.out Hl8.out, Hown7.out.setCell (fun h => ?_) _, Hfr7.out, Hm07.out.upon ((Mod.refl (fun k => k = w.heap.size + 1) w7).setCell (fun _ => rfl) _) (fun b hb => .inr (by omega)), ?_⟩
          · have := Hfr7.out _ h
            have h2 : w.heap.size + 2 ≤ w.heap.size + 1 := this
            omega
          · have := Hs7.out
            simp
            exact this
        case measure => simp [intOf]; omega
    · obtain rfl : j = l.length := by omega
      rw [List.take_length] at hacc
      subst hacc
      obtain ⟨aa, ac, rfl, -⟩ := hown.shape
      have HR := Lib.hid hR
      have HE := Lib.hid hE
      have Hown := Lib.hid hown
      have Hfr := Lib.hid hfr
      have Hmr := Lib.hid hmr
      clear hR hE hown hfr hmr
      go_wp2_with (first | ((with_reducible refine wpList_load_lit 32 (.tmp 5) ?_); refine ⟨w.heap.size + 1, 0, rfl, [.string sc, .slice aa (newL l).length ac], CellsAt.row HE.out, by kernel_rfl, by kernel_rfl, ?_⟩) | ((with_reducible refine wpList_store_row_lit 32 (.tmp 4) (.tmp 43) ?_); refine ⟨w.heap.size, rfl, _, _, HR.out, [.string sc, .slice aa (newL l).length ac], rfl, rfl, by kernel_rfl, rfl, ?_⟩; intro w6 hg6 hm6; have Hg6 := Lib.hid hg6; have Hm6 := Lib.hid hm6; clear hg6 hm6) | fail)
      refine bodyPost_cell rfl w.heap.size rfl _ (CellsAt.row Hg6.out) (by kernel_rfl) (by kernel_rfl) rfl ⟨.slice aa (newL l).length ac, rfl, Hown.out.mod Hm6.out (fun b hb => by have := Hfr.out b hb; omega), fun b hb => by have := Hfr.out b hb; omega, Hmr.out.upon Hm6.out (fun b hb => .inr (by omega))⟩
end Go.Proofs.YtloplmaekonenaaGreatDoor
