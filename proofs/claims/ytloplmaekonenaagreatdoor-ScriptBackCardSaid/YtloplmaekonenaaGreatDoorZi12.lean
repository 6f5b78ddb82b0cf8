/-
  slices.Insert of one attribute.
-/
import Derived.Test.YtloplmaekonenaaGreatDoorZi7
import Derived.Test.YtloplmaekonenaaGreatDoorZi11
import Derived.Test.YtloplmaekonenaaGreatDoorZi6
namespace Go.Proofs.YtloplmaekonenaaGreatDoor
set_option maxRecDepth 20000
open Go.RowKit
theorem atts_length (l : List Att) : (atts l).length = l.length * 6 := by
  induction l with
  | nil => rfl
  | cons a l ih =>
    show (a.cells ++ atts l).length = _
    rw [List.length_append, ih, Att.cells_length, List.length_cons]
    omega
theorem atts_append (l m : List Att) : atts (l ++ m) = atts l ++ atts m := by unfold atts; simp
theorem atts_cons (a : Att) (l : List Att) : atts (a :: l) = a.cells ++ atts l := by unfold atts; simp
theorem atts_one (l : List Att) : ∀ u ∈ atts l, u.oneCell' = true := fun u hu => by
  unfold atts at hu
  obtain ⟨x, -, hx⟩ := List.mem_flatMap.1 hu
  exact List.all_eq_true.1 (show x.cells.all (·.oneCell') = true from rfl) u hx
theorem atts_T' : SliceT Tryz.prog 30 90 6 64 := sliceT (by kernel_rfl) (by kernel_rfl)
theorem attr_size : (Tryz.prog.info? 90).map (·.size) = some 6 := by kernel_rfl
theorem attr_sizeOf (w : World) : (Go.sizeOf 90).run Tryz.prog w = .ok 6 w := by
  have := attr_size
  cases hq : Tryz.prog.info? 90 with
  | none => rw [hq] at this; cases this
  | some i =>
    rw [hq] at this
    have hs : i.size = 6 := by simpa using this
    simp [Go.sizeOf, typeInfo, hq, hs]
theorem shape_of {w : World} {g : Nat} {cs : Array Value} {t : TypeId} {fr : Nat × Nat} (h : w.heap[g]? = some (.cells cs t fr)) : w.shape? g = some (t, cs.size) := by
  unfold World.shape?
  rw [h]
theorem frozen_end {w : World} {g k : Nat} {cs : Array Value} {t : TypeId} (h : w.heap[g]? = some (.cells cs t (0, 0))) : w.frozen? { block := g, off := k } = false := fr_of h
set_option maxRecDepth 20000 in
set_option maxHeartbeats 4000000 in
theorem insert_end (w : World) (sv : Value) (l : List Att) (x : Att) (hown : OwnSl w 90 6 sv l.length (atts l)) (hl : l.length ≤ 100000) (vb : Nat) (hvb : w.heap[vb]? = some (.cells x.cells.toArray 90 (0, 0))) :
    Calls Tryz.prog 79 #[sv, .int .i64 l.length, .slice (some ⟨vb, 0, none⟩) 1 1] w fun e w' => ∃ v', e = .returned v' ∧
      Appended w 90 6 sv (l.length + 1) (atts (l ++ [x])) v' w' := by
  obtain ⟨a, cap, rfl, hcap⟩ := hown.shape
  have hl' : (l.length : Int) ≤ 100000 := by omega
  have hcap' : (l.length : Int) ≤ cap := by omega
  have hrd : RdSl w 6 (.slice (some ⟨vb, 0, none⟩) 1 1) 1 x.cells := ⟨by simp [Att.cells_length], _, _, rfl, by omega, (fun h => by cases h), fun b hb _ => ⟨vb, 0, (by cases hb; rfl), fun j u hu => by
    rw [Nat.zero_add]
    exact cell_of hvb (by simpa using hu)⟩⟩
  have hx1 : ∀ u ∈ x.cells, u.oneCell' = true := List.all_eq_true.1 (show x.cells.all (·.oneCell') = true from rfl)
  by_cases hb : cap = l.length
  · subst hb
    have Hown := Lib.hid hown
    have Hvb := Lib.hid hvb
    have Hrd := Lib.hid hrd
    have Hx1 := Lib.hid hx1
    clear hown hvb hrd hx1
    go_enter Tryz.func79, Tryz.ntmps79
    go_wp2_with (first | ((with_reducible refine wpList_append_lit (.tmp 23) (.tmp 24) 30 ?_); refine ⟨rfl, 90, 6, 64, atts_T', .slice a l.length l.length, l.length, atts l, rfl, Hown.out, _, 1, x.cells, rfl, Hrd.out, Hx1.out, by omega, by unfold maxLen; omega, ?_⟩; intro ad cap2 w2 hA; have HAp := Lib.hid hA; clear hA) | fail)
    go_ret
    exact ⟨_, rfl, by have := HAp.out; rw [atts_append, atts_cons]; simpa [atts] using this⟩
  · have Hown := Lib.hid hown
    have Hvb := Lib.hid hvb
    have Hrd := Lib.hid hrd
    have Hx1 := Lib.hid hx1
    clear hown hvb hrd hx1
    go_enter Tryz.func79, Tryz.ntmps79
    go_wp2_with (first | ((with_reducible refine wpList_append_lit (.tmp 23) (.tmp 24) 30 ?_); refine ⟨rfl, 90, 6, 64, atts_T', .slice a l.length cap, l.length, atts l, rfl, Hown.out, _, 1, x.cells, rfl, Hrd.out, Hx1.out, by omega, by unfold maxLen; omega, ?_⟩; intro ad cap2 w2 hA; have HAp := Lib.hid hA; clear hA) | fail)
    go_ret
    exact ⟨_, rfl, by have := HAp.out; rw [atts_append, atts_cons]; simpa [atts] using this⟩
set_option maxRecDepth 20000 in
set_option maxHeartbeats 4000000 in
theorem insert_mid (w : World) (sv : Value) (l : List Att) (i : Nat) (x : Att) (hown : OwnSl w 90 6 sv l.length (atts l)) (hi : i < l.length) (hl : l.length ≤ 100000) (vb : Nat) (hvb : w.heap[vb]? = some (.cells x.cells.toArray 90 (0, 0)))
    (hne : ∀ b, sv.ownBlock = some b → b ≠ vb) :
    Calls Tryz.prog 79 #[sv, .int .i64 i, .slice (some ⟨vb, 0, none⟩) 1 1] w fun e w' => ∃ v', e = .returned v' ∧
      Appended w 90 6 sv (l.length + 1) (atts (l.take i ++ x :: l.drop i)) v' w' := by
  obtain ⟨a, cap, rfl, hcap⟩ := hown.shape
  have hl' : (l.length : Int) ≤ 100000 := by omega
  have hi' : (i : Int) < l.length := by omega
  have hcap' : (l.length : Int) ≤ cap := by omega
  rcases hown.2 with ⟨-, h0⟩ | ⟨g, off, cap', cur, hv, hg, hn, hc, hs, ht⟩
  · omega
  cases hv
  have hx1 : ∀ u ∈ x.cells, u.oneCell' = true := List.all_eq_true.1 (show x.cells.all (·.oneCell') = true from rfl)
  have hgv : g ≠ vb := hne g rfl
  have hcells : ∀ j u, (atts l)[j]? = some u → w.cell? ⟨g, off + j, none⟩ = some u := by
    obtain ⟨-, a', c', h1, -, -, h4⟩ := hown.rd
    cases h1
    intro j u hu
    obtain ⟨g', off', h5, h6⟩ := h4 _ rfl (by
      have := (List.getElem?_eq_some_iff.1 hu).1
      rw [atts_length] at this
      omega)
    cases h5
    exact h6 j u hu
  have hsplit : atts l = atts (l.take i) ++ atts (l.drop i) := by rw [← atts_append, List.take_append_drop]
  have htl : (atts (l.take i)).length = i * 6 := by rw [atts_length, List.length_take]; congr 1; omega
  have hdl : (atts (l.drop i)).length = (l.length - i) * 6 := by rw [atts_length, List.length_drop]
  by_cases hroom : l.length + 1 ≤ cap
  · have hroom' : (l.length : Int) + 1 ≤ cap := by omega
    have hb1 : ¬ (cap = i) := by omega
    have hb2 : ¬ (cap = i + 1) := by omega
    have hsz : off + (l.length + 1) * 6 ≤ cur.size := by have := Nat.mul_le_mul_right 6 hroom; omega
    have hov : ∀ lb cb, (callFunc 121 #[.slice (some ⟨vb, 0, none⟩) 1 1, .slice (some ⟨g, off + (i + 1) * 6, none⟩) lb cb]).run Tryz.prog w = .ok (.value (.bool false)) w := fun lb cb => by
      rw [run_callFunc_extern Tryz.func121 (by kernel_rfl) (by kernel_rfl) (by kernel_rfl) (e := Extern.SlicesOverlaps.overlaps #[30, 30] #[4]) (by kernel_rfl),
        Lib.run_overlaps_apart w 30 4 90 Tryz.underlying30 6 attr_sizeOf ⟨vb, 0, none⟩ ⟨g, off + (i + 1) * 6, none⟩ 1 1 lb cb (Ne.symm hgv) 90 90 6 cur.size (shape_of hvb) (shape_of hg) (by omega) (fr_of hvb) (frozen_end hvb)]
      rfl
    have hcp1 : ∀ ty dc sc, (Builtin.copy_ #[30, 30] ty #[.slice (some ⟨g, off + (i + 1) * 6, none⟩) (l.length - i) dc, .slice (some ⟨g, off + i * 6, none⟩) (l.length + 1 - i) sc]).run Tryz.prog w.drew = .ok (goInt ((l.length - i : Nat) : Int)) (w.drew.setRow g (cur.toList.take (off + (i + 1) * 6) ++ atts (l.drop i) ++ cur.toList.drop (off + (i + 1) * 6 + (atts (l.drop i)).length)).toArray) := fun ty dc sc => by
      have hmin : Nat.min (l.length + 1 - i) (l.length - i) = l.length - i := by simp only [Nat.min_def]; split <;> omega
      have := run_copy_row (P := Tryz.prog) w.drew 30 30 ty 90 6 g (off + (i + 1) * 6) (l.length - i) dc ⟨g, off + i * 6, none⟩ (l.length + 1 - i) sc (atts (l.drop i)) cur 90 hg Tryz.underlying30 attr_size (by rw [hmin, hdl])
        (fun j v hj => by
          have := hcells (i * 6 + j) v (by rw [hsplit, List.getElem?_append_right (by omega), htl, Nat.add_sub_cancel_left]; exact hj)
          rw [addr_add, Nat.add_assoc]
          exact this) (by rw [hdl]; omega) (atts_one _)
      rw [hmin] at this
      exact this
    obtain ⟨cur1, hcur1⟩ : ∃ c, (cur.toList.take (off + (i + 1) * 6) ++ atts (l.drop i) ++ cur.toList.drop (off + (i + 1) * 6 + (atts (l.drop i)).length)).toArray = c := ⟨_, rfl⟩
    rw [hcur1] at hcp1
    have hc1s : cur1.size = cur.size := by
      rw [← hcur1]
      simp only [List.size_toArray, List.length_append, List.length_take, List.length_drop, Array.length_toList (xs := cur), hdl]
      omega
    obtain ⟨w1, hw1⟩ : ∃ w1, w.drew.setRow g cur1 = w1 := ⟨_, rfl⟩
    have hm1 : Mod (fun k => k = g) w w1 := hw1 ▸ ((Mod.refl (fun k => k = g) w).drew).setRow (fun _ => rfl) _
    have hg1 : w1.heap[g]? = some (.cells cur1 90 (0, 0)) := hw1 ▸ setRow_heap w.drew g cur _ _ _ hg
    have hv1 := hm1.heap hvb (fun h => hgv h.symm)
    have hcp2 : ∀ ty dc, (Builtin.copy_ #[30, 30] ty #[.slice (some ⟨g, off + i * 6, none⟩) (l.length + 1 - i) dc, .slice (some ⟨vb, 0, none⟩) 1 1]).run Tryz.prog w1 = .ok (goInt 1) (w1.setRow g (cur1.toList.take (off + i * 6) ++ x.cells ++ cur1.toList.drop (off + i * 6 + x.cells.length)).toArray) := fun ty dc => by
      have hmin : Nat.min 1 (l.length + 1 - i) = 1 := by simp only [Nat.min_def]; split <;> omega
      have := run_copy_row (P := Tryz.prog) w1 30 30 ty 90 6 g (off + i * 6) (l.length + 1 - i) dc ⟨vb, 0, none⟩ 1 1 x.cells cur1 90 hg1 Tryz.underlying30 attr_size (by rw [hmin]; rfl)
        (fun j v hj => by rw [addr_add, Nat.zero_add]; exact cell_of hv1 (by simpa using hj)) (by rw [hc1s, Att.cells_length]; omega) hx1
      rw [hmin] at this
      exact this
    have hshift := list_shift (L := cur.toList) (A := atts (l.take i)) (B := atts (l.drop i)) (X := x.cells) (off := off) (by rw [htl, hdl, Att.cells_length, Array.length_toList (xs := cur)]; omega) (by rw [htl, hdl, ← Nat.add_mul, show i + (l.length - i) = l.length by omega, ht, hsplit])
    rw [htl, hdl, Att.cells_length] at hshift
    obtain ⟨w2, hw2⟩ : ∃ w2, w1.setRow g (cur1.toList.take (off + i * 6) ++ x.cells ++ cur1.toList.drop (off + i * 6 + x.cells.length)).toArray = w2 := ⟨_, rfl⟩
    rw [hw2] at hcp2
    have hA : Appended w 90 6 (.slice (some ⟨g, off, none⟩) l.length cap) (l.length + 1) (atts (l.take i ++ x :: l.drop i)) (.slice (some ⟨g, off, none⟩) (l.length + 1) cap) w2 := by
      have hlx : (atts (l.take i ++ x :: l.drop i)).length = (l.length + 1) * 6 := by rw [atts_append, atts_cons, List.length_append, List.length_append, htl, hdl, Att.cells_length]; omega
      refine ⟨⟨hlx, .inr ⟨g, off, cap, _, rfl, hw2 ▸ setRow_heap w1 g cur1 _ _ _ hg1, hroom, hc, ?_, ?_⟩⟩, (hm1.trans (hw2 ▸ (Mod.refl (fun k => k = g) w1).setRow (fun _ => rfl) _) (fun _ _ h => h)).mono (fun k _ hk => by rw [hk]; rfl), .inl rfl⟩
      · simp only [List.size_toArray, List.length_append, List.length_take, List.length_drop, Array.length_toList (xs := cur1), hc1s, Att.cells_length]
        omega
      · have h2 := hshift.1
        rw [← hcur1]
        rw [show off + i * 6 + 6 = off + (i + 1) * 6 by omega] at h2
        simp only [hdl, Att.cells_length]
        rw [show off + i * 6 + 6 = off + (i + 1) * 6 by omega, show (l.length + 1) * 6 = i * 6 + 6 + (l.length - i) * 6 by omega, atts_append, atts_cons]
        exact h2
    have htn : ((l.length : Int) + 1).toNat = l.length + 1 := by omega
    have htn2 : ((i : Int) + 1).toNat = i + 1 := by omega
    have hw3 : IntKind.i64.wrap ((i : Int) + 1) = (i : Int) + 1 := by rw [IntKind.wrap_i64]; omega
    have hb3 : (0 : Int) ≤ (i : Int) + 1 := by omega
    have hb4 : (i : Int) + 1 ≤ (l.length : Int) + 1 := by omega
    have hi2 : (i : Int) ≤ (l.length : Int) + 1 := by omega
    have Hov := Lib.hid hov
    have Hown := Lib.hid hown
    have Hvb := Lib.hid hvb
    have Hg := Lib.hid hg
    have Ht := Lib.hid ht
    have Hx1 := Lib.hid hx1
    have Hcells := Lib.hid hcells
    have Hsplit := Lib.hid hsplit
    have Htl := Lib.hid htl
    have Hdl := Lib.hid hdl
    have Hshift := Lib.hid hshift
    have HA := Lib.hid hA
    have Hm1 := Lib.hid hm1
    have Hg1 := Lib.hid hg1
    have Hv1 := Lib.hid hv1
    have Hcur1 := Lib.hid hcur1
    have Hw2 := Lib.hid hw2
    have Hw1 := Lib.hid hw1
    have Hcp1 := Lib.hid hcp1
    have Hcp2 := Lib.hid hcp2
    have Hc1s := Lib.hid hc1s
    clear hown hvb hg ht hx1 hcells hsplit htl hdl hshift hA hm1 hg1 hv1 hcur1 hw2 hw1 hcp1 hcp2 hc1s hs
    go_enter Tryz.func79, Tryz.ntmps79
    go_wp2_with fail
    clear hov
    have hS : (fun _ : World => True) w.drew := trivial
    refine wp_region_script [.rd 0, .rd 1, .rd 2, .rd 3, .rd 4, .rd 5, .rd 6, .rd 7, .go 8] [] (fun _ : World => True) (by kernel_rfl) (by kernel_rfl) (fun _ _ d _ _ h => (by cases d <;> exact h)) ?_
    refine walk_rd rfl ?_ (fun _ => hS) ?_ (fun w0 h0 => ?_) (fun K hK => ?_)
    · (try simp only [List.getElem_toArray]); (try simp only [List.getElem_cons_succ]); (try simp only [List.getElem_cons_zero])
      go_simp; done
    rotate_left
    · (try simp only [List.getElem_toArray]); (try simp only [List.getElem_cons_succ]); (try simp only [List.getElem_cons_zero])
      first
        | (obtain - := h0 rfl; clear h0; go_simp; with_reducible rfl)
        | (clear h0; go_simp; with_reducible rfl)
    (try simp only [List.getElem_toArray]); (try simp only [List.getElem_cons_succ]); (try simp only [List.getElem_cons_zero])
    go_simp; refine hK _ ?_; clear hK K
    refine walk_rd rfl ?_ (fun _ => hS) ?_ (fun w0 h0 => ?_) (fun K hK => ?_)
    · (try simp only [List.getElem_toArray]); (try simp only [List.getElem_cons_succ]); (try simp only [List.getElem_cons_zero])
      go_simp; done
    rotate_left
    · (try simp only [List.getElem_toArray]); (try simp only [List.getElem_cons_succ]); (try simp only [List.getElem_cons_zero])
      first
        | (obtain - := h0 rfl; clear h0; go_simp; with_reducible rfl)
        | (clear h0; go_simp; with_reducible rfl)
    (try simp only [List.getElem_toArray]); (try simp only [List.getElem_cons_succ]); (try simp only [List.getElem_cons_zero])
    go_simp; refine hK _ ?_; clear hK K
    refine walk_rd rfl ?_ (fun _ => hS) ?_ (fun w0 h0 => ?_) (fun K hK => ?_)
    · (try simp only [List.getElem_toArray]); (try simp only [List.getElem_cons_succ]); (try simp only [List.getElem_cons_zero])
      go_simp; done
    rotate_left
    · (try simp only [List.getElem_toArray]); (try simp only [List.getElem_cons_succ]); (try simp only [List.getElem_cons_zero])
      first
        | (obtain - := h0 rfl; clear h0; go_simp; with_reducible rfl)
        | (clear h0; go_simp; with_reducible rfl)
    (try simp only [List.getElem_toArray]); (try simp only [List.getElem_cons_succ]); (try simp only [List.getElem_cons_zero])
    go_simp; refine hK _ ?_; clear hK K
    refine walk_rd rfl ?_ (fun _ => hS) ?_ (fun w0 h0 => ?_) (fun K hK => ?_)
    · (try simp only [List.getElem_toArray]); (try simp only [List.getElem_cons_succ]); (try simp only [List.getElem_cons_zero])
      go_simp; done
    rotate_left
    · (try simp only [List.getElem_toArray]); (try simp only [List.getElem_cons_succ]); (try simp only [List.getElem_cons_zero])
      first
        | (obtain - := h0 rfl; clear h0; go_simp; with_reducible rfl)
        | (clear h0; go_simp; with_reducible rfl)
    (try simp only [List.getElem_toArray]); (try simp only [List.getElem_cons_succ]); (try simp only [List.getElem_cons_zero])
    go_simp; refine hK _ ?_; clear hK K
    refine walk_rd rfl ?_ (fun _ => hS) ?_ (fun w0 h0 => ?_) (fun K hK => ?_)
    · (try simp only [List.getElem_toArray]); (try simp only [List.getElem_cons_succ]); (try simp only [List.getElem_cons_zero])
      go_simp; done
    rotate_left
    · (try simp only [List.getElem_toArray]); (try simp only [List.getElem_cons_succ]); (try simp only [List.getElem_cons_zero])
      first
        | (obtain - := h0 rfl; clear h0; go_simp; with_reducible rfl)
        | (clear h0; go_simp; with_reducible rfl)
    (try simp only [List.getElem_toArray]); (try simp only [List.getElem_cons_succ]); (try simp only [List.getElem_cons_zero])
    go_simp; refine hK _ ?_; clear hK K
    refine walk_rd rfl ?_ (fun _ => hS) ?_ (fun w0 h0 => ?_) (fun K hK => ?_)
    · (try simp only [List.getElem_toArray]); (try simp only [List.getElem_cons_succ]); (try simp only [List.getElem_cons_zero])
      go_simp; done
    rotate_left
    · (try simp only [List.getElem_toArray]); (try simp only [List.getElem_cons_succ]); (try simp only [List.getElem_cons_zero])
      first
        | (obtain - := h0 rfl; clear h0; go_simp; with_reducible rfl)
        | (clear h0; go_simp; with_reducible rfl)
    (try simp only [List.getElem_toArray]); (try simp only [List.getElem_cons_succ]); (try simp only [List.getElem_cons_zero])
    go_simp; refine hK _ ?_; clear hK K
    refine walk_rd rfl ?_ (fun _ => hS) ?_ (fun w0 h0 => ?_) (fun K hK => ?_)
    · (try simp only [List.getElem_toArray]); (try simp only [List.getElem_cons_succ]); (try simp only [List.getElem_cons_zero])
      go_simp; done
    rotate_left
    · (try simp only [List.getElem_toArray]); (try simp only [List.getElem_cons_succ]); (try simp only [List.getElem_cons_zero])
      first
        | (obtain - := h0 rfl; clear h0; go_simp; with_reducible rfl)
        | (clear h0; go_simp; with_reducible rfl)
    (try simp only [List.getElem_toArray]); (try simp only [List.getElem_cons_succ]); (try simp only [List.getElem_cons_zero])
    go_simp; refine hK _ ?_; clear hK K
    refine walk_rd rfl ?_ (fun _ => hS) ?_ (fun w0 h0 => ?_) (fun K hK => ?_)
    · (try simp only [List.getElem_toArray]); (try simp only [List.getElem_cons_succ]); (try simp only [List.getElem_cons_zero])
      go_simp; done
    rotate_left
    · (try simp only [List.getElem_toArray]); (try simp only [List.getElem_cons_succ]); (try simp only [List.getElem_cons_zero])
      first
        | (obtain - := h0 rfl; clear h0; go_simp; with_reducible rfl)
        | (clear h0; go_simp; with_reducible rfl)
    (try simp only [List.getElem_toArray]); (try simp only [List.getElem_cons_succ]); (try simp only [List.getElem_cons_zero])
    go_simp; refine hK _ ?_; clear hK K
    refine walk_one (go_yes rfl ?_ (fun K hK => ?_))
    · (try simp only [List.getElem_toArray]); (try simp only [List.getElem_cons_succ]); (try simp only [List.getElem_cons_zero])
      go_simp; done
    (try simp only [List.getElem_toArray]); (try simp only [List.getElem_cons_succ]); (try simp only [List.getElem_cons_zero])
    refine wp_copy_run (.tmp 73) (.tmp 76) 30 30 rfl (Hcp1.out _ _ _) ?_
    rw [Hw1.out]
    refine hK _ _ (fun h => absurd h (by decide)) ?_
    clear hK K
    refine walk_nil ?_
    go_wp2_with (first | ((with_reducible refine wpList_copy_lit (.tmp 80) (.tmp 81) ?_); refine ⟨_, _, rfl, _, _, Hcp2.out _ _, ?_⟩) | fail)
    go_ret
    exact ⟨_, rfl, HA.out⟩
  · have hroom' : (cap : Int) < l.length + 1 := by omega
    have hb1 : ¬ (cap = i) := by omega
    have hsz : off + cap * 6 ≤ cur.size := hs
    obtain ⟨i0, z, hi0, hz0, hz1, hz2, hzs⟩ := atts_T'.2
    have hrd0 : RdSl w 6 (.slice (some ⟨g, off, none⟩) i cap) i (atts (l.take i)) := ⟨by rw [htl], _, _, rfl, by omega, (fun h => by cases h), fun b hb _ => ⟨g, off, (by cases hb; rfl), fun j u hu => hcells j u (by rw [hsplit, List.getElem?_append_left (List.getElem?_eq_some_iff.1 hu).1]; exact hu)⟩⟩
    obtain ⟨c, hc1, hc2, hap⟩ := run_append_zeros (P := Tryz.prog) w 30 3 30 90 i0 z Tryz.underlying30 Tryz.underlying3 hi0 hz0 6 hz1 (by rw [hzs]) g off i cap (atts (l.take i)) hrd0 (l.length + 1 - i) (by omega) (by omega) (by rw [hz2]; omega) (by unfold maxLen; omega)
    rw [show i + (l.length + 1 - i) = l.length + 1 by omega] at hc1 hap
    obtain ⟨curA, hcurA⟩ : ∃ cA, (atts (l.take i)).toArray ++ (Builtin.zeroCells z.cells (l.length + 1 - i) ++ Builtin.zeroCells z.cells (c - (l.length + 1))) = cA := ⟨_, rfl⟩
    rw [hcurA] at hap
    have hAs : curA.size = c * 6 := by
      rw [← hcurA]
      simp only [Array.size_append, List.size_toArray, size_zeroCells, hzs, htl]
      omega
    have hAt : curA.toList.take (i * 6) = atts (l.take i) := by
      rw [← hcurA, Array.toList_append, ← htl]
      exact List.take_left
    obtain ⟨wA, hwA⟩ : ∃ wA, w.drew.alloc (.cells curA 90) = wA := ⟨_, rfl⟩
    rw [hwA] at hap
    have hmA : Mod (fun _ => False) w wA := hwA ▸ ((Mod.refl (fun _ => False) w).drew).alloc _
    have hgA : wA.heap[w.heap.size]? = some (.cells curA 90 (0, 0)) := hwA ▸ heap_alloc_new w.drew _
    have hvA := hmA.heap hvb (fun h => h)
    have hgl : g < w.heap.size := (Array.getElem?_eq_some_iff.1 hg).1
    have hcp1 : ∀ ty dc, (Builtin.copy_ #[30, 30] ty #[.slice (some ⟨w.heap.size, i * 6, none⟩) (l.length + 1 - i) dc, .slice (some ⟨vb, 0, none⟩) 1 1]).run Tryz.prog wA = .ok (goInt 1) (wA.setRow w.heap.size (curA.toList.take (i * 6) ++ x.cells ++ curA.toList.drop (i * 6 + x.cells.length)).toArray) := fun ty dc => by
      have hmin : Nat.min 1 (l.length + 1 - i) = 1 := by simp only [Nat.min_def]; split <;> omega
      have := run_copy_row (P := Tryz.prog) wA 30 30 ty 90 6 w.heap.size (i * 6) (l.length + 1 - i) dc ⟨vb, 0, none⟩ 1 1 x.cells curA 90 hgA Tryz.underlying30 attr_size (by rw [hmin]; rfl)
        (fun j v hj => by rw [addr_add, Nat.zero_add]; exact cell_of hvA (by simpa using hj)) (by rw [hAs, Att.cells_length]; omega) hx1
      rw [hmin] at this
      exact this
    obtain ⟨cur1, hcur1⟩ : ∃ c, (curA.toList.take (i * 6) ++ x.cells ++ curA.toList.drop (i * 6 + x.cells.length)).toArray = c := ⟨_, rfl⟩
    rw [hcur1] at hcp1
    have hc1s : cur1.size = c * 6 := by
      rw [← hcur1]
      simp only [List.size_toArray, List.length_append, List.length_take, List.length_drop, Array.length_toList (xs := curA), hAs, Att.cells_length]
      omega
    have h1t : cur1.toList.take ((i + 1) * 6) = atts (l.take i) ++ x.cells := by
      rw [← hcur1, hAt, List.append_assoc]
      show (atts (l.take i) ++ (x.cells ++ _)).take _ = _
      rw [← List.append_assoc, show (i + 1) * 6 = (atts (l.take i) ++ x.cells).length by rw [List.length_append, htl, Att.cells_length]; omega, List.take_left]
    obtain ⟨w1, hw1⟩ : ∃ w1, wA.setRow w.heap.size cur1 = w1 := ⟨_, rfl⟩
    rw [hw1] at hcp1
    have hm1 : Mod (fun _ => False) w w1 := hmA.upon (hw1 ▸ (Mod.refl (fun k => k = w.heap.size) wA).setRow (fun _ => rfl) _) (fun b hb => .inr (by omega))
    have hg1 : w1.heap[w.heap.size]? = some (.cells cur1 90 (0, 0)) := hw1 ▸ setRow_heap wA w.heap.size curA _ _ _ hgA
    have hcp2 : ∀ ty dc sc, (Builtin.copy_ #[30, 30] ty #[.slice (some ⟨w.heap.size, (i + 1) * 6, none⟩) (l.length - i) dc, .slice (some ⟨g, off + i * 6, none⟩) (l.length - i) sc]).run Tryz.prog w1.drew = .ok (goInt ((l.length - i : Nat) : Int)) (w1.drew.setRow w.heap.size (cur1.toList.take ((i + 1) * 6) ++ atts (l.drop i) ++ cur1.toList.drop ((i + 1) * 6 + (atts (l.drop i)).length)).toArray) := fun ty dc sc => by
      have hmin : Nat.min (l.length - i) (l.length - i) = l.length - i := by simp only [Nat.min_def]; split <;> omega
      have := run_copy_row (P := Tryz.prog) w1.drew 30 30 ty 90 6 w.heap.size ((i + 1) * 6) (l.length - i) dc ⟨g, off + i * 6, none⟩ (l.length - i) sc (atts (l.drop i)) cur1 90 hg1 Tryz.underlying30 attr_size (by rw [hmin, hdl])
        (fun j v hj => by
          have := hcells (i * 6 + j) v (by rw [hsplit, List.getElem?_append_right (by omega), htl, Nat.add_sub_cancel_left]; exact hj)
          rw [addr_add, Nat.add_assoc]
          exact hm1.cell this (fun h => h)) (by rw [hdl, hc1s]; omega) (atts_one _)
      rw [hmin] at this
      exact this
    obtain ⟨cur2, hcur2⟩ : ∃ c, (cur1.toList.take ((i + 1) * 6) ++ atts (l.drop i) ++ cur1.toList.drop ((i + 1) * 6 + (atts (l.drop i)).length)).toArray = c := ⟨_, rfl⟩
    rw [hcur2] at hcp2
    obtain ⟨w2, hw2⟩ : ∃ w2, w1.drew.setRow w.heap.size cur2 = w2 := ⟨_, rfl⟩
    rw [hw2] at hcp2
    have hA : Appended w 90 6 (.slice (some ⟨g, off, none⟩) l.length cap) (l.length + 1) (atts (l.take i ++ x :: l.drop i)) (.slice (some ⟨w.heap.size, 0, none⟩) (l.length + 1) c) w2 := by
      have hlx : (atts (l.take i ++ x :: l.drop i)).length = (l.length + 1) * 6 := by rw [atts_append, atts_cons, List.length_append, List.length_append, htl, hdl, Att.cells_length]; omega
      refine ⟨⟨hlx, .inr ⟨w.heap.size, 0, c, cur2, rfl, hw2 ▸ setRow_heap w1.drew w.heap.size cur1 _ _ _ hg1, hc1, hc2, ?_, ?_⟩⟩, (hm1.upon (hw2 ▸ ((Mod.refl (fun k => k = w.heap.size) w1).drew).setRow (fun _ => rfl) _) (fun b hb => .inr (by omega))).mono (fun k _ hk => hk.elim), .inr ⟨w.heap.size, rfl, Nat.le_refl _⟩⟩
      · rw [← hcur2]
        simp only [List.size_toArray, List.length_append, List.length_take, List.length_drop, Array.length_toList (xs := cur1), hc1s, hdl]
        omega
      · rw [← hcur2, List.drop_zero, h1t]
        show ((atts (l.take i) ++ x.cells) ++ atts (l.drop i) ++ _).take _ = _
        have he : atts (l.take i ++ x :: l.drop i) = (atts (l.take i) ++ x.cells) ++ atts (l.drop i) := by rw [atts_append, atts_cons, List.append_assoc]
        rw [← he, ← hlx, List.take_left]
    have htn : ((l.length : Int) + 1 - i).toNat = l.length + 1 - i := by omega
    have hw3 : IntKind.i64.wrap ((i : Int) + 1) = (i : Int) + 1 := by rw [IntKind.wrap_i64]; omega
    have hb3 : (0 : Int) ≤ (i : Int) + 1 := by omega
    have hb4 : (i : Int) + 1 ≤ (l.length : Int) + 1 := by omega
    have htn2 : ((i : Int) + 1).toNat = i + 1 := by omega
    have hb5 : ¬ (c = i) := by omega
    have hb6 : ¬ (c = i + 1) := by omega
    have hb7 : (i : Int) ≤ c := by omega
    have hb8 : (l.length : Int) + 1 ≤ c := by omega
    rw [show ((l.length + 1 - i : Nat) : Int) = (l.length : Int) + 1 - i by omega] at hap
    have Hown := Lib.hid hown
    have Hvb := Lib.hid hvb
    have Hg := Lib.hid hg
    have Ht := Lib.hid ht
    have Hx1 := Lib.hid hx1
    have Hcells := Lib.hid hcells
    have Hsplit := Lib.hid hsplit
    have Htl := Lib.hid htl
    have Hdl := Lib.hid hdl
    have HA := Lib.hid hA
    have Hm1 := Lib.hid hm1
    have Hg1 := Lib.hid hg1
    have Hcur1 := Lib.hid hcur1
    have Hcur2 := Lib.hid hcur2
    have Hw2 := Lib.hid hw2
    have Hw1 := Lib.hid hw1
    have Hcp1 := Lib.hid hcp1
    have Hcp2 := Lib.hid hcp2
    have Hc1s := Lib.hid hc1s
    have Hap := Lib.hid hap
    have Hrd0 := Lib.hid hrd0
    have H1t := Lib.hid h1t
    have HAt := Lib.hid hAt
    have HAs := Lib.hid hAs
    have HcurA := Lib.hid hcurA
    have HwA := Lib.hid hwA
    have HmA := Lib.hid hmA
    have HgA := Lib.hid hgA
    have HvA := Lib.hid hvA
    clear hown hvb hg ht hx1 hcells hsplit htl hdl hA hm1 hg1 hcur1 hcur2 hw2 hw1 hcp1 hcp2 hc1s hap hrd0 h1t hAt hAs hcurA hwA hmA hgA hvA hs hsz
    go_enter Tryz.func79, Tryz.ntmps79
    go_wp2_with (first | ((with_reducible refine wpList_append_run (.tmp 34) (.tmp 39) ?_); refine ⟨_, _, rfl, _, _, Hap.out, ?_⟩) | ((with_reducible refine wpList_copy_lit (.tmp 43) (.tmp 44) ?_); refine ⟨_, _, rfl, _, _, Hcp1.out _ _, ?_⟩) | fail)
    have hi2 : (i : Int) ≤ (l.length : Int) := by omega
    refine wp_region_script [.rd 0, .rd 1, .rd 2, .rd 3, .rd 4, .rd 5, .rd 6, .rd 7, .go 8] [] (fun _ : World => True) (by kernel_rfl) (by kernel_rfl) (fun _ _ d _ _ h => (by cases d <;> exact h)) ?_
    have hS : (fun _ : World => True) w1.drew := trivial
    refine walk_rd rfl ?_ (fun _ => hS) ?_ (fun w0 h0 => ?_) (fun K hK => ?_)
    · (try simp only [List.getElem_toArray]); (try simp only [List.getElem_cons_succ]); (try simp only [List.getElem_cons_zero])
      go_simp; done
    rotate_left
    · (try simp only [List.getElem_toArray]); (try simp only [List.getElem_cons_succ]); (try simp only [List.getElem_cons_zero])
      first
        | (obtain - := h0 rfl; clear h0; go_simp; with_reducible rfl)
        | (clear h0; go_simp; with_reducible rfl)
    (try simp only [List.getElem_toArray]); (try simp only [List.getElem_cons_succ]); (try simp only [List.getElem_cons_zero])
    go_simp; refine hK _ ?_; clear hK K
    refine walk_rd rfl ?_ (fun _ => hS) ?_ (fun w0 h0 => ?_) (fun K hK => ?_)
    · (try simp only [List.getElem_toArray]); (try simp only [List.getElem_cons_succ]); (try simp only [List.getElem_cons_zero])
      go_simp; done
    rotate_left
    · (try simp only [List.getElem_toArray]); (try simp only [List.getElem_cons_succ]); (try simp only [List.getElem_cons_zero])
      first
        | (obtain - := h0 rfl; clear h0; go_simp; with_reducible rfl)
        | (clear h0; go_simp; with_reducible rfl)
    (try simp only [List.getElem_toArray]); (try simp only [List.getElem_cons_succ]); (try simp only [List.getElem_cons_zero])
    go_simp; refine hK _ ?_; clear hK K
    refine walk_rd rfl ?_ (fun _ => hS) ?_ (fun w0 h0 => ?_) (fun K hK => ?_)
    · (try simp only [List.getElem_toArray]); (try simp only [List.getElem_cons_succ]); (try simp only [List.getElem_cons_zero])
      go_simp; done
    rotate_left
    · (try simp only [List.getElem_toArray]); (try simp only [List.getElem_cons_succ]); (try simp only [List.getElem_cons_zero])
      first
        | (obtain - := h0 rfl; clear h0; go_simp; with_reducible rfl)
        | (clear h0; go_simp; with_reducible rfl)
    (try simp only [List.getElem_toArray]); (try simp only [List.getElem_cons_succ]); (try simp only [List.getElem_cons_zero])
    go_simp; refine hK _ ?_; clear hK K
    refine walk_rd rfl ?_ (fun _ => hS) ?_ (fun w0 h0 => ?_) (fun K hK => ?_)
    · (try simp only [List.getElem_toArray]); (try simp only [List.getElem_cons_succ]); (try simp only [List.getElem_cons_zero])
      go_simp; done
    rotate_left
    · (try simp only [List.getElem_toArray]); (try simp only [List.getElem_cons_succ]); (try simp only [List.getElem_cons_zero])
      first
        | (obtain - := h0 rfl; clear h0; go_simp; with_reducible rfl)
        | (clear h0; go_simp; with_reducible rfl)
    (try simp only [List.getElem_toArray]); (try simp only [List.getElem_cons_succ]); (try simp only [List.getElem_cons_zero])
    go_simp; refine hK _ ?_; clear hK K
    refine walk_rd rfl ?_ (fun _ => hS) ?_ (fun w0 h0 => ?_) (fun K hK => ?_)
    · (try simp only [List.getElem_toArray]); (try simp only [List.getElem_cons_succ]); (try simp only [List.getElem_cons_zero])
      go_simp; done
    rotate_left
    · (try simp only [List.getElem_toArray]); (try simp only [List.getElem_cons_succ]); (try simp only [List.getElem_cons_zero])
      first
        | (obtain - := h0 rfl; clear h0; go_simp; with_reducible rfl)
        | (clear h0; go_simp; with_reducible rfl)
    (try simp only [List.getElem_toArray]); (try simp only [List.getElem_cons_succ]); (try simp only [List.getElem_cons_zero])
    go_simp; refine hK _ ?_; clear hK K
    refine walk_rd rfl ?_ (fun _ => hS) ?_ (fun w0 h0 => ?_) (fun K hK => ?_)
    · (try simp only [List.getElem_toArray]); (try simp only [List.getElem_cons_succ]); (try simp only [List.getElem_cons_zero])
      go_simp; done
    rotate_left
    · (try simp only [List.getElem_toArray]); (try simp only [List.getElem_cons_succ]); (try simp only [List.getElem_cons_zero])
      first
        | (obtain - := h0 rfl; clear h0; go_simp; with_reducible rfl)
        | (clear h0; go_simp; with_reducible rfl)
    (try simp only [List.getElem_toArray]); (try simp only [List.getElem_cons_succ]); (try simp only [List.getElem_cons_zero])
    go_simp; refine hK _ ?_; clear hK K
    refine walk_rd rfl ?_ (fun _ => hS) ?_ (fun w0 h0 => ?_) (fun K hK => ?_)
    · (try simp only [List.getElem_toArray]); (try simp only [List.getElem_cons_succ]); (try simp only [List.getElem_cons_zero])
      go_simp; done
    rotate_left
    · (try simp only [List.getElem_toArray]); (try simp only [List.getElem_cons_succ]); (try simp only [List.getElem_cons_zero])
      first
        | (obtain - := h0 rfl; clear h0; go_simp; with_reducible rfl)
        | (clear h0; go_simp; with_reducible rfl)
    (try simp only [List.getElem_toArray]); (try simp only [List.getElem_cons_succ]); (try simp only [List.getElem_cons_zero])
    go_simp; refine hK _ ?_; clear hK K
    refine walk_rd rfl ?_ (fun _ => hS) ?_ (fun w0 h0 => ?_) (fun K hK => ?_)
    · (try simp only [List.getElem_toArray]); (try simp only [List.getElem_cons_succ]); (try simp only [List.getElem_cons_zero])
      go_simp; done
    rotate_left
    · (try simp only [List.getElem_toArray]); (try simp only [List.getElem_cons_succ]); (try simp only [List.getElem_cons_zero])
      first
        | (obtain - := h0 rfl; clear h0; go_simp; with_reducible rfl)
        | (clear h0; go_simp; with_reducible rfl)
    (try simp only [List.getElem_toArray]); (try simp only [List.getElem_cons_succ]); (try simp only [List.getElem_cons_zero])
    go_simp; refine hK _ ?_; clear hK K
    refine walk_one (go_yes rfl ?_ (fun K hK => ?_))
    · (try simp only [List.getElem_toArray]); (try simp only [List.getElem_cons_succ]); (try simp only [List.getElem_cons_zero])
      go_simp; done
    (try simp only [List.getElem_toArray]); (try simp only [List.getElem_cons_succ]); (try simp only [List.getElem_cons_zero])
    refine wp_copy_run (.tmp 50) (.tmp 53) 30 30 rfl (Hcp2.out _ _ _) ?_
    refine hK _ _ (fun h => absurd h (by decide)) ?_
    clear hK K
    refine walk_nil ?_
    go_wp2_with fail
    go_ret
    exact ⟨_, rfl, HA.out⟩
theorem insert_at (w : World) (sv : Value) (l : List Att) (i : Nat) (x : Att) (hown : OwnSl w 90 6 sv l.length (atts l)) (hi : i ≤ l.length) (hl : l.length ≤ 100000) (vb : Nat) (hvb : w.heap[vb]? = some (.cells x.cells.toArray 90 (0, 0)))
    (hne : ∀ b, sv.ownBlock = some b → b ≠ vb) :
    Calls Tryz.prog 79 #[sv, .int .i64 i, .slice (some ⟨vb, 0, none⟩) 1 1] w fun e w' => ∃ v', e = .returned v' ∧
      Appended w 90 6 sv (l.length + 1) (atts (l.take i ++ x :: l.drop i)) v' w' := by
  rcases Nat.lt_or_eq_of_le hi with h | rfl
  · exact insert_mid w sv l i x hown h hl vb hvb hne
  · rw [List.take_length, List.drop_length]
    exact insert_end w sv l x hown hl vb hvb
end Go.Proofs.YtloplmaekonenaaGreatDoor
