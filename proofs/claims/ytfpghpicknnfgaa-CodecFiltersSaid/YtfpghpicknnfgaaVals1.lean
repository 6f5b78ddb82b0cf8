/-
  CodecValues: what its call reads.
-/
import Derived.Test.YtfpghpicknnfgaaFwd
import Derived.Test.YtfpghpicknnfgaaSame
import Derived.Test.YtfpghpicknnfgaaRead
import Derived.Test.YtfpghpicknnfgaaPlan3
namespace Go.Proofs.Ytfpghpicknnfgaa
open Go.RowKit

def vals (l : List V) : List Value := l.flatMap V.cells
theorem V.cells_length (v : V) : v.cells.length = 5 := rfl
theorem vals_at (l : List V) {k j : Nat} {a : V} {u : Value} (h : l[k]? = some a) (hj : a.cells[j]? = some u) : (vals l)[5 * k + j]? = some u := by
  induction l generalizing k with
  | nil => simp at h
  | cons b l ih =>
    unfold vals at ih ⊢
    rw [List.flatMap_cons]
    cases k with
    | zero =>
      simp only [List.getElem?_cons_zero, Option.some.injEq] at h
      subst h
      have := (List.getElem?_eq_some_iff.1 hj).1
      rw [List.getElem?_append_left (by omega), Nat.mul_zero, Nat.zero_add, hj]
    | succ k =>
      rw [List.getElem?_cons_succ] at h
      rw [List.getElem?_append_right (by rw [V.cells_length]; omega), V.cells_length, show 5 * (k + 1) + j - 5 = 5 * k + j by omega]
      exact ih h

theorem canon_num {v : V} (h : v.num < 2 ^ 64) : v.canon.num < 2 ^ 64 := by
  unfold V.canon
  split
  · show (0 : Nat) < 2 ^ 64; decide
  · split
    · exact canonB_lt h
    · split
      · show (0 : Nat) < 2 ^ 64; decide
      · split
        · show (0 : Nat) < 2 ^ 64; decide
        · show (0 : Nat) < 2 ^ 64; decide

set_option maxRecDepth 20000 in
set_option maxHeartbeats 4000000 in
theorem values1 (w : World) (r G kl kg : Nat) (sv : Value) (l : List V) (t : List UInt8) (h : Rdr w r G (l.flatMap valBytes ++ t)) (hG : G < w.heap.size) (hx : l.length ≤ 30) (hf : ∀ v ∈ l, v.fits)
    (hv : RdSl w 5 sv l.length (vals (l.map V.canon))) (hvr : ∀ b, sv.ownBlock = some b → b ≠ r ∧ b ≠ kg) (hl : w.heap[kl]? = some (.cells #[sv] 53 (0, 0)))
    (hg : w.heap[kg]? = some (.cells #[.bool true] 4 (0, 0))) (n1 : kg ≠ r) (n8 : G ≠ kg) :
    Calls Try.prog 31 #[.pointer (some ⟨r, 0, none⟩), .pointer (some ⟨kl, 0, none⟩), .pointer (some ⟨kg, 0, none⟩)] w fun e w' =>
      e = .returned (.tuple #[]) ∧ Rdr w' r G t ∧ Mod (fun k => k = r ∨ k = kg) w w' ∧ w'.heap[kg]? = some (.cells #[.bool true] 4 (0, 0)) := by
  obtain ⟨-, a, cap, rfl, ha2, ha3, ha4⟩ := hv
  have cl : w.cell? ⟨kl, 0, none⟩ = some (.slice a l.length cap) := cell_of hl rfl
  have hx' : (l.length : Int) ≤ 30 := by omega
  have H := Lib.hid h
  have Hg := Lib.hid hg
  have Ha3 := Lib.hid ha3
  have Ha4 := Lib.hid ha4
  have Hvr := Lib.hid hvr
  have Hfit := Lib.hid hf
  clear h hg ha3 ha4 hvr hl hf
  go_enter Try.func31, Try.ntmps31
  go_wp2_with fail
  go_loopw [8] (fun i wr => ∃ j : Nat, i = .int .i64 j ∧ j ≤ l.length ∧ Rdr wr r G ((l.drop j).flatMap valBytes ++ t) ∧ Mod (fun k => k = r ∨ k = kg) w wr ∧ wr.heap[kg]? = some (.cells #[.bool true] 4 (0, 0))) (fun i _ => l.length - (intOf i).toNat)
  case atStart => exact ⟨0, rfl, Nat.zero_le _, H.out, Mod.refl _ _, Hg.out⟩
  case round =>
    obtain ⟨j, rfl, hj, hr, hm, hgr⟩ := hrel
    have Hm := Lib.hid hm
    have Hgr := Lib.hid hgr
    have Hr := Lib.hid hr
    clear hr hm hgr
    by_cases hlt : j < l.length
    · have hlt' : (j : Int) < l.length := by omega
      obtain ⟨x, hxj⟩ : ∃ x, l[j]? = some x := ⟨_, List.getElem?_eq_getElem hlt⟩
      obtain ⟨b, hab⟩ : ∃ b, a = some b := by
        cases a with
        | none => have := Ha3.out rfl; omega
        | some b => exact ⟨b, rfl⟩
      obtain ⟨g0, off, rfl, hc⟩ := Ha4.out b hab
      subst hab
      have hgp := Hvr.out g0 rfl
      have hcan : (l.map V.canon)[j]? = some x.canon := by rw [List.getElem?_map, hxj]; rfl
      obtain ⟨c, hcx⟩ : ∃ c, x.canon = c := ⟨_, rfl⟩
      rw [hcx] at hcan
      have hxs : CellsAt wr g0 (off + j * 5) c.cells := by
        intro i u hu
        have := Hm.out.cell (hc (5 * j + i) u (vals_at _ hcan hu)) (fun h => h.elim hgp.1 hgp.2)
        rw [show off + j * 5 + i = off + (5 * j + i) by omega]
        exact this
      have c0 : wr.cell? ⟨g0, off + j * 5, none⟩ = some (.int .i64 c.kind) := hxs 0 _ rfl
      have c1 : wr.cell? ⟨g0, off + j * 5 + 1, none⟩ = some (.int .i64 c.int) := hxs 1 _ rfl
      have c2 : wr.cell? ⟨g0, off + j * 5 + 2, none⟩ = some (.float .f64 c.num) := hxs 2 _ rfl
      have c3 : wr.cell? ⟨g0, off + j * 5 + 3, none⟩ = some (.string c.text) := hxs 3 _ rfl
      have c4 : wr.cell? ⟨g0, off + j * 5 + 4, none⟩ = some (.bool c.yes) := hxs 4 _ rfl
      have hfx := Hfit.out x (List.mem_of_getElem? hxj)
      have hcn : c.num < 2 ^ 64 := hcx ▸ canon_num hfx.num
      have hd : (l.drop j).flatMap valBytes ++ t = valBytes x ++ ((l.drop (j + 1)).flatMap valBytes ++ t) := by
        rw [List.drop_eq_getElem_cons hlt, show l[j] = x from (List.getElem?_eq_some_iff.1 hxj).2, List.flatMap_cons, List.append_assoc]
      have hr := Hr.out
      rw [hd] at hr
      have hrv := readV_fwd x ((l.drop (j + 1)).flatMap valBytes ++ t) hfx
      rw [hcx] at hrv
      obtain ⟨wz, hwz⟩ : ∃ wz, wr.alloc (.cells c.cells.toArray 55) = wz := ⟨_, rfl⟩
      have hgz : wz.heap[wr.heap.size]? = some (.cells c.cells.toArray 55 (0, 0)) := hwz ▸ heap_alloc_new wr _
      have hmz : Mod (fun _ => False) wr wz := hwz ▸ (Mod.refl (fun _ => False) wr).alloc _
      have Hrr := Lib.hid hr
      have Hrv := Lib.hid hrv
      have Hgz := Lib.hid hgz
      have Hmz := Lib.hid hmz
      have Hwz := Lib.hid hwz
      clear hr hrv hgz hmz hwz hd hxs hc hcan hfx hgp Ha4
      go_wp2_with (first | (refine wpList_store_new rfl 55 (.tmp 5) (.tmp 11) rfl rfl _ 55 c.cells rfl rfl (by kernel_rfl) (fun u hu => List.all_eq_true.1 (show c.cells.all (·.oneCell') = true from rfl) u hu) ?_; rw [show wr.alloc (.cells c.cells.toArray 55) = wz from Hwz.out]) | fail)
      have hS : (fun y : World => y.cell? ⟨kg, 0, none⟩ = some (.bool true) ∧ AllCells y wr.heap.size 0 5 ∧ cellsOf y wr.heap.size 0 5 = c.cells.toArray) wz.drew :=
        ⟨cell_of (heap_drew_ (Hmz.out.heap Hgr.out (fun h => h))) rfl, (CellsAt.row (heap_drew_ Hgz.out)).all rfl, (CellsAt.row (heap_drew_ Hgz.out)).is rfl⟩
      refine wp_region_script [.rd 0, .rd 1, .rd 2, .rd 4, .go 3, .go 5, .go 6, .go 7] [0, 1, 2, 3, 4] (fun y : World => y.cell? ⟨kg, 0, none⟩ = some (.bool true) ∧ AllCells y wr.heap.size 0 5 ∧ cellsOf y wr.heap.size 0 5 = c.cells.toArray) (by kernel_rfl) (by kernel_rfl) (fun _ _ d _ _ h => (by cases d <;> exact h)) ?_
      refine walk_rd rfl ?_ (fun _ => hS) ?_ (fun w0 h0 => ?_) (fun K hK => ?_)
      · try simp only [List.getElem_toArray, List.getElem_cons_succ, List.getElem_cons_zero]
        go_simp; done
      rotate_left
      · try simp only [List.getElem_toArray, List.getElem_cons_succ, List.getElem_cons_zero]
        first
          | (obtain ⟨h1, h2, h3⟩ := h0 rfl; clear h0; go_simp; with_reducible rfl)
          | (clear h0; go_simp; with_reducible rfl)
      try simp only [List.getElem_toArray, List.getElem_cons_succ, List.getElem_cons_zero]
      go_simp; refine hK _ ?_; clear hK K
      refine walk_rd rfl ?_ (fun _ => hS) ?_ (fun w0 h0 => ?_) (fun K hK => ?_)
      · try simp only [List.getElem_toArray, List.getElem_cons_succ, List.getElem_cons_zero]
        go_simp; done
      rotate_left
      · try simp only [List.getElem_toArray, List.getElem_cons_succ, List.getElem_cons_zero]
        first
          | (obtain ⟨h1, h2, h3⟩ := h0 rfl; clear h0; go_simp; with_reducible rfl)
          | (clear h0; go_simp; with_reducible rfl)
      try simp only [List.getElem_toArray, List.getElem_cons_succ, List.getElem_cons_zero]
      go_simp; refine hK _ ?_; clear hK K
      refine walk_rd rfl ?_ (fun _ => hS) ?_ (fun w0 h0 => ?_) (fun K hK => ?_)
      · try simp only [List.getElem_toArray, List.getElem_cons_succ, List.getElem_cons_zero]
        go_simp; done
      rotate_left
      · try simp only [List.getElem_toArray, List.getElem_cons_succ, List.getElem_cons_zero]
        first
          | (obtain ⟨h1, h2, h3⟩ := h0 rfl; clear h0; go_simp; with_reducible rfl)
          | (clear h0; go_simp; with_reducible rfl)
      try simp only [List.getElem_toArray, List.getElem_cons_succ, List.getElem_cons_zero]
      go_simp; refine hK _ ?_; clear hK K
      refine walk_rd rfl ?_ (fun _ => hS) ?_ (fun w0 h0 => ?_) (fun K hK => ?_)
      · try simp only [List.getElem_toArray, List.getElem_cons_succ, List.getElem_cons_zero]
        go_simp; done
      rotate_left
      · try simp only [List.getElem_toArray, List.getElem_cons_succ, List.getElem_cons_zero]
        first
          | (obtain ⟨h1, h2, h3⟩ := h0 rfl; clear h0; go_simp; with_reducible rfl)
          | (clear h0; go_simp; with_reducible rfl)
      try simp only [List.getElem_toArray, List.getElem_cons_succ, List.getElem_cons_zero]
      go_simp; refine hK _ ?_; clear hK K
      refine walk_one (go_yes rfl ?_ (fun K hK => ?_))
      · try simp only [List.getElem_toArray, List.getElem_cons_succ, List.getElem_cons_zero]
        go_simp; done
      have hmd : Mod (fun _ => False) wr wz.drew := Hmz.out.drew
      have hrl := Hrr.out.lt
      have Hrd := Lib.hid (rd_value wz.drew r G _ (Hrr.out.mod hmd (fun h => h) (fun _ h => h)) (Nat.lt_of_lt_of_le hG (Nat.le_trans Hm.out.size hmd.size)))
      go_wp2_with fail
      refine Hrd.out.mono ?_
      rintro e w2 (⟨h0, -⟩ | ⟨v', t', h0, rfl, hr2, hm2⟩)
      · rw [Hrv.out] at h0; cases h0
      rw [Hrv.out] at h0
      cases h0
      have hgn : wr.heap.size ≠ r := by omega
      have hg2 := hm2.heap (heap_drew_ (Hmz.out.heap Hgr.out (fun h => h))) n1
      have hz2 := hm2.heap (heap_drew_ Hgz.out) hgn
      have hS2 : (fun y : World => y.cell? ⟨kg, 0, none⟩ = some (.bool true) ∧ AllCells y wr.heap.size 0 5 ∧ cellsOf y wr.heap.size 0 5 = c.cells.toArray) w2 := ⟨cell_of hg2 rfl, (CellsAt.row hz2).all rfl, (CellsAt.row hz2).is rfl⟩
      refine hK _ _ (fun _ _ => hS2) ?_
      clear hK K hS Hrd
      have Hm2 := Lib.hid ((Hm.out.on hmd (fun b hb => hb.elim)).on hm2 (fun b hb => .inl (.inl hb)))
      have Hr2 := Lib.hid hr2
      have Hg2 := Lib.hid hg2
      clear hm2 hr2 hg2 hz2 hS2 hmd
      refine walk_one (go_yes rfl ?_ (fun K hK => ?_))
      · try simp only [List.getElem_toArray, List.getElem_cons_succ, List.getElem_cons_zero]
        go_simp; done
      have Hsm := Lib.hid (value_same c c hcn hcn w2)
      go_wp2_with fail
      refine Hsm.out.mono ?_
      rintro e w3 ⟨rfl, hm3⟩
      rw [V.same_self]
      refine hK _ _ (fun h => absurd h (by decide)) ?_
      clear hK K Hsm
      have hg3 := hm3.heap Hg2.out (fun h => h)
      have k3 : w3.cell? ⟨kg, 0, none⟩ = some (.bool true) := cell_of hg3 rfl
      have f3 : w3.frozen? ⟨kg, 0, none⟩ = false := fr_of hg3
      have Hm3 := Lib.hid (Hm2.out.on hm3 (fun b hb => hb.elim))
      have Hr3 := Lib.hid (Hr2.out.mod hm3 (fun h => h) (fun _ h => h))
      have Hg3 := Lib.hid hg3
      clear hm3 hg3
      refine walk_one (go_yes rfl ?_ (fun K hK => ?_))
      · try simp only [List.getElem_toArray, List.getElem_cons_succ, List.getElem_cons_zero]
        go_simp; done
      try simp only [List.getElem_toArray, List.getElem_cons_succ, List.getElem_cons_zero]
      go_simp
      refine hK _ _ (fun h => absurd h (by decide)) ?_
      clear hK K
      refine walk_one (go_yes rfl ?_ (fun K hK => ?_))
      · try simp only [List.getElem_toArray, List.getElem_cons_succ, List.getElem_cons_zero]
        go_simp; done
      try simp only [List.getElem_toArray, List.getElem_cons_succ, List.getElem_cons_zero]
      go_simp
      refine hK _ _ (fun h => absurd h (by decide)) ?_
      clear hK K
      refine walk_nil ?_
      go_wp2
      go_roundw
      case rel =>
        have hms : Mod (fun k => k = kg) w3 (w3.setCell ⟨kg, 0, none⟩ (.bool true)) := (Mod.refl (fun k => k = kg) w3).setCell (fun _ => rfl) _
        exact ⟨j + 1, by go_num, hlt, Hr3.out.mod hms (fun h => n1 h.symm) (fun _ => n8), Hm3.out.trans hms (fun _ _ h => .inr h), heap_set Hg3.out⟩
      case measure => simp [intOf]; omega
    · obtain rfl : j = l.length := by omega
      have hr := Hr.out
      rw [List.drop_length] at hr
      have Hr2 := Lib.hid hr
      clear hr
      go_wp2
      exact ⟨rfl, .tuple #[], by simp [results, Try.results31], rfl, Hr2.out, Hm.out, Hgr.out⟩
end Go.Proofs.Ytfpghpicknnfgaa
