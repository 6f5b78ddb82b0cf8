/- Lemmas of this claim. -/
import Derived.Test.YtaenebdppkjhoaaGreatDoorZa1
import Derived.Test.YtaenebdppkjhoaaGreatDoorZa10
import Derived.Test.YtaenebdppkjhoaaGreatDoorZa11
import Derived.Test.YtaenebdppkjhoaaGreatDoorZa12
import Derived.Test.YtaenebdppkjhoaaGreatDoorZa13
import Derived.Test.YtaenebdppkjhoaaGreatDoorZa14
import Derived.Test.YtaenebdppkjhoaaGreatDoorZa15
import Derived.Test.YtaenebdppkjhoaaGreatDoorZa16
import Derived.Test.YtaenebdppkjhoaaGreatDoorZa17
import Derived.Test.YtaenebdppkjhoaaGreatDoorZa18
import Derived.Test.YtaenebdppkjhoaaGreatDoorZa19
import Derived.Test.YtaenebdppkjhoaaGreatDoorZa2
import Derived.Test.YtaenebdppkjhoaaGreatDoorZa20
import Derived.Test.YtaenebdppkjhoaaGreatDoorZa21
import Derived.Test.YtaenebdppkjhoaaGreatDoorZa22
import Derived.Test.YtaenebdppkjhoaaGreatDoorZa23
import Derived.Test.YtaenebdppkjhoaaGreatDoorZa24
import Derived.Test.YtaenebdppkjhoaaGreatDoorZa25
import Derived.Test.YtaenebdppkjhoaaGreatDoorZa26
import Derived.Test.YtaenebdppkjhoaaGreatDoorZa27
import Derived.Test.YtaenebdppkjhoaaGreatDoorZa28
import Derived.Test.YtaenebdppkjhoaaGreatDoorZa29
import Derived.Test.YtaenebdppkjhoaaGreatDoorZa3
import Derived.Test.YtaenebdppkjhoaaGreatDoorZa30
import Derived.Test.YtaenebdppkjhoaaGreatDoorZa31
import Derived.Test.YtaenebdppkjhoaaGreatDoorZa32
import Derived.Test.YtaenebdppkjhoaaGreatDoorZa33
import Derived.Test.YtaenebdppkjhoaaGreatDoorZa34
import Derived.Test.YtaenebdppkjhoaaGreatDoorZa35
import Derived.Test.YtaenebdppkjhoaaGreatDoorZa36
import Derived.Test.YtaenebdppkjhoaaGreatDoorZa37
import Derived.Test.YtaenebdppkjhoaaGreatDoorZa38
import Derived.Test.YtaenebdppkjhoaaGreatDoorZa39
import Derived.Test.YtaenebdppkjhoaaGreatDoorZa4
import Derived.Test.YtaenebdppkjhoaaGreatDoorZa40
import Derived.Test.YtaenebdppkjhoaaGreatDoorZa41
import Derived.Test.YtaenebdppkjhoaaGreatDoorZa42
import Derived.Test.YtaenebdppkjhoaaGreatDoorZa43
import Derived.Test.YtaenebdppkjhoaaGreatDoorZa44
import Derived.Test.YtaenebdppkjhoaaGreatDoorZa45
import Derived.Test.YtaenebdppkjhoaaGreatDoorZa46
import Derived.Test.YtaenebdppkjhoaaGreatDoorZa47
import Derived.Test.YtaenebdppkjhoaaGreatDoorZa5
import Derived.Test.YtaenebdppkjhoaaGreatDoorZa6
import Derived.Test.YtaenebdppkjhoaaGreatDoorZa7
import Derived.Test.YtaenebdppkjhoaaGreatDoorZa8
import Derived.Test.YtaenebdppkjhoaaGreatDoorZa9
import Derived.WalkKit
import Derived.Deep.RegionLaw
import Derived.Deep.QuietTactic
import Derived.Deep.RegionHeld3
import Derived.Laws.StructEq
import Derived.BigQuiet
import Derived.Laws.Cover1
import Derived.Lib.Bytealg
namespace Go.Proofs.YtaenebdppkjhoaaGreatDoor
set_option maxRecDepth 20000
open Go.RowKit
namespace Mod
variable {F G : Nat → Prop} {w w' w'' : World}
end Mod
section
variable {w w' : World} {e : TypeId} {sz : Nat} {v : Value} {n : Nat} {xs : List Value}
end
section
variable {P : Program} {w : World}
end
theorem heap_old {w : World} {g : Nat} {o x : Obj} (h : w.heap[g]? = some x) : (w.alloc o).heap[g]? = some x :=
 (heap_alloc_old w o (Array.getElem?_eq_some_iff.1 h).1).trans h
end Go.Proofs.YtaenebdppkjhoaaGreatDoor
namespace Go.Proofs.YtaenebdppkjhoaaGreatDoor
set_option maxRecDepth 20000
open Go.RowKit
theorem equalIn_float {P : Program} (w : World) (d : Nat) (t : TypeId) (a b : Nat) (h : P.underlying t = some (.float .f64)) : (Op.equalIn (d + 1) t (.float .f64 a) (.float .f64 b)).run P w = .ok (fEq a b) w := by
 simp [Op.equalIn, run_underlying h, Op.floatEq, fEq]
theorem eql_value (a b : V) (w : World) : (binOp .eql 68 (.agg a.cells.toArray) (.agg b.cells.toArray)).run Tryz.prog w = .ok (.bool (V.eqG a b)) w := by
 have hf : (Tryz.prog.fieldsOf 68).toList.map (fun f => (f.name == "_", f.type, f.offset)) = [(false, 3, 0), (false, 2, 1), (false, 66, 2), (false, 9, 3), (false, 4, 4)] := by kernel_rfl
 rw [run_eql_struct, run_equalIn_agg w 9999 _ _ _ (by kernel_rfl) (by kernel_rfl)]
 have h49 := fun w d a b => equalIn_float (P := Tryz.prog) w d 66 a b Tryz.underlying66
 obtain ⟨k1, i1, n1, t1, y1⟩ := a
 obtain ⟨k2, i2, n2, t2, y2⟩ := b
 unfold V.eqG V.cells
 simp [go_sem, Program.fieldsOf, Op.eqFields, h49]
 by_cases h1 : k1 = k2 <;> by_cases h2 : i1 = i2 <;> cases h3 : fEq n1 n2 <;> by_cases h4 : t1.toList = t2.toList <;> by_cases h5 : y1 = y2 <;> simp [h1, h2, h4, h5]
set_option maxHeartbeats 400000 in
set_option maxRecDepth 20000 in
theorem kept_at (v : V) (w : World) : Calls Tryz.prog 52 #[.agg v.cells.toArray] w fun e w' => e = .returned (.bool v.kept) ∧ Mod (fun _ => False) w w' := by
 have heq := fun a b => eql_value a b
 have hg1 : (w.alloc (.cells v.cells.toArray 68)).heap[w.heap.size]? = some (.cells v.cells.toArray 68 (0, 0)) := heap_alloc_new w _
 have Hc := Lib.hid fun w => value_canon v w
 have Hv := Lib.hid fun w => value_void v w
 have Hg1 := Lib.hid hg1
 have Heq := Lib.hid heq
 have hgd : Tryz.prog.eqGuardType Tryz.prog.depth 68 = false := by kernel_rfl
 clear hg1 heq
 obtain ⟨R, hR⟩ : ∃ R, v.kept = R := ⟨_, rfl⟩
 rw [hR]
 have HR := Lib.hid hR
 clear hR
 go_enter Tryz.func52, Tryz.ntmps52
 go_wp2_with (first | (refine wpList_load_cells rfl 68 (.tmp 1) rfl w.heap.size 0 rfl v.cells (CellsAt.row Hg1.out) (by kernel_rfl) (by kernel_rfl) ?_) | fail)
 refine (Hc.out _).mono ?_
 rintro e w1 ⟨rfl, hm1⟩
 have hg11 := hm1.heap Hg1.out (by simp)
 have hl1 : w.heap.size < w1.heap.size := (Array.getElem?_eq_some_iff.1 hg11).1
 have hm01 : Mod (fun _ => False) w w1 := ((Mod.refl (fun _ => False) w).alloc _).trans hm1 (fun _ _ h => h)
 have Hm01 := Lib.hid hm01
 have hg12 := heap_old (o := .cells v.canon.cells.toArray 68) hg11
 have hg3 := heap_alloc_new w1 (.cells v.canon.cells.toArray 68)
 have Hg12 := Lib.hid hg12
 have Hg3 := Lib.hid hg3
 clear hm1 hg11 hm01 hg12 hg3 Hc
 go_wp2_with (first | (refine wpList_store_new rfl 68 (.tmp 3) (.tmp 5) rfl rfl _ 68 v.canon.cells rfl rfl (by kernel_rfl) (fun u hu => List.all_eq_true.1 (show v.canon.cells.all (·.oneCell') = true from rfl) u hu) ?_) | (refine wpList_load_cells rfl 68 (.tmp 1) rfl w.heap.size 0 rfl v.cells (CellsAt.row Hg12.out) (by kernel_rfl) (by kernel_rfl) ?_) | fail)
 refine (Hv.out _).mono ?_
 rintro e w2 ⟨rfl, hm2⟩
 have hg13 := hm2.heap Hg12.out (by simp)
 have hg33 := hm2.heap Hg3.out (by simp)
 have hm02 : Mod (fun _ => False) w w2 := (Hm01.out.alloc _).trans hm2 (fun _ _ h => h)
 have Hm02 := Lib.hid hm02
 cases hvo : v.void with
 | false =>
  have Hvo := Lib.hid hvo
  have Hg13 := Lib.hid hg13
  have Hg33 := Lib.hid hg33
  have he := Heq.out v.canon v
  clear hm2 hg13 hg33 hm02 hvo Hv
  go_wp2_with (first | (refine wpList_load_cells rfl 68 (.tmp 3) rfl w1.heap.size 0 rfl v.canon.cells (CellsAt.row Hg33.out) (by kernel_rfl) (by kernel_rfl) ?_) | (refine wpList_load_cells rfl 68 (.tmp 1) rfl w.heap.size 0 rfl v.cells (CellsAt.row Hg13.out) (by kernel_rfl) (by kernel_rfl) ?_) | fail)
  go_ret
  have h := HR.out
  unfold V.kept at h
  rw [Hvo.out, if_neg (by decide)] at h
  subst h
  exact ⟨rfl, Hm02.out⟩
 | true =>
  have c3 : w2.cell? ⟨w1.heap.size, 2, none⟩ = some (.float .f64 v.canon.num) := cell_of hg33 rfl
  have f3 : w2.frozen? ⟨w1.heap.size, 2, none⟩ = false := fr_of hg33
  have c1 : w2.cell? ⟨w.heap.size, 2, none⟩ = some (.float .f64 v.num) := cell_of hg13 rfl
  have f1 : w2.frozen? ⟨w.heap.size, 2, none⟩ = false := fr_of hg13
  have hne : w.heap.size ≠ w1.heap.size := by omega
  have hne' : w1.heap.size ≠ w.heap.size := by omega
  have mA : Mod (fun k => k = w1.heap.size) w2 (w2.setCell ⟨w1.heap.size, 2, none⟩ (.float .f64 0)) := (Mod.refl (fun k => k = w1.heap.size) w2).setCell (fun _ => rfl) _
  have mB : Mod (fun k => k = w.heap.size) (w2.setCell ⟨w1.heap.size, 2, none⟩ (.float .f64 0)) ((w2.setCell ⟨w1.heap.size, 2, none⟩ (.float .f64 0)).setCell ⟨w.heap.size, 2, none⟩ (.float .f64 0)) := (Mod.refl (fun k => k = w.heap.size) (w2.setCell ⟨w1.heap.size, 2, none⟩ (.float .f64 0))).setCell (fun _ => rfl) _
  have hA3 : ((w2.setCell ⟨w1.heap.size, 2, none⟩ (.float .f64 0)).setCell ⟨w.heap.size, 2, none⟩ (.float .f64 0)).heap[w1.heap.size]? = some (.cells (V.cells { v.canon with num := 0 }).toArray 68 (0, 0)) := mB.heap (heap_set hg33) (by omega)
  have hA1 : ((w2.setCell ⟨w1.heap.size, 2, none⟩ (.float .f64 0)).setCell ⟨w.heap.size, 2, none⟩ (.float .f64 0)).heap[w.heap.size]? = some (.cells (V.cells { v with num := 0 }).toArray 68 (0, 0)) := heap_set (mA.heap hg13 (by omega))
  have hm3 : Mod (fun _ => False) w ((w2.setCell ⟨w1.heap.size, 2, none⟩ (.float .f64 0)).setCell ⟨w.heap.size, 2, none⟩ (.float .f64 0)) := (hm02.trans (mA.mono (fun k hk h => h)) (fun b hb h => by omega)).trans mB (fun b hb h => by omega)
  have Hvo := Lib.hid hvo
  have HA3 := Lib.hid hA3
  have HA1 := Lib.hid hA1
  have Hm3 := Lib.hid hm3
  have he := Heq.out { v.canon with num := 0 } { v with num := 0 }
  clear hm2 hg13 hg33 hm02 hvo Hv mA mB hA3 hA1 hm3
  go_wp2_with (first | (refine wpList_load_cells rfl 68 (.tmp 3) rfl w1.heap.size 0 rfl (V.cells { v.canon with num := 0 }) (CellsAt.row HA3.out) (by kernel_rfl) (by kernel_rfl) ?_) | (refine wpList_load_cells rfl 68 (.tmp 1) rfl w.heap.size 0 rfl (V.cells { v with num := 0 }) (CellsAt.row HA1.out) (by kernel_rfl) (by kernel_rfl) ?_) | fail)
  go_ret
  have h := HR.out
  unfold V.kept at h
  rw [Hvo.out, if_pos rfl] at h
  subst h
  exact ⟨rfl, Hm3.out⟩
end Go.Proofs.YtaenebdppkjhoaaGreatDoor
namespace Go.Proofs.YtaenebdppkjhoaaGreatDoor
set_option maxRecDepth 20000
open Go.RowKit
theorem atts_at (l : List Att) {k j : Nat} {a : Att} {u : Value} (h : l[k]? = some a) (hj : a.cells[j]? = some u) : (atts l)[6 * k + j]? = some u := by
 induction l generalizing k with
 | nil => simp at h
 | cons b l ih =>
  unfold atts at ih ⊢
  rw [List.flatMap_cons]
  cases k with
  | zero =>
   simp only [List.getElem?_cons_zero, Option.some.injEq] at h
   subst h
   have := (List.getElem?_eq_some_iff.1 hj).1
   rw [List.getElem?_append_left (by omega), Nat.mul_zero, Nat.zero_add, hj]
  | succ k =>
   rw [List.getElem?_cons_succ] at h
   rw [List.getElem?_append_right (by rw [Att.cells_length]; omega), Att.cells_length, show 6 * (k + 1) + j - 6 = 6 * k + j by omega]
   exact ih h
section
variable {P : Program} {a : Act} {w : World} {C : World → Prop}
end
def okAt (l : List Att) (k : Nat) : Bool :=
 match l[k]? with
 | none => true
 | some a => isName a.name && a.v.right && (match k with | 0 => true | k + 1 => match l[k]? with | none => true | some b => Op.bytesLess b.name.toList a.name.toList) && a.v.kept
def evRight (l : List Att) : Bool := (List.range l.length).all (okAt l) && decide (l.length ≤ 8)
theorem okAt_is {l : List Att} {k : Nat} {x q : Att} (h : l[k]? = some x) (hq : l[k - 1]? = some q) : okAt l k = (isName x.name && x.v.right && (decide (k = 0) || Op.bytesLess q.name.toList x.name.toList) && x.v.kept) := by
 unfold okAt
 rw [h]
 cases k with
 | zero => rfl
 | succ k =>
  rw [Nat.add_sub_cancel] at hq
  simp only [hq]
  rw [decide_eq_false (by omega), Bool.false_or]
theorem evRight_no {l : List Att} {k : Nat} (hk : k < l.length) (h : okAt l k = false) : evRight l = false := by
 unfold evRight
 rw [List.all_eq_false.2 ⟨k, List.mem_range.2 hk, by rw [h]; decide⟩, Bool.false_and]
theorem evRight_all {l : List Att} (h : ∀ j, j < l.length → okAt l j = true) : evRight l = decide (l.length ≤ 8) := by
 unfold evRight
 rw [List.all_eq_true.2 fun j hj => h j (List.mem_range.1 hj), Bool.true_and]
theorem okcases {p : Prop} (n r z l k : Bool) (h1 : n = false → p) (h2 : n = true → r = false → p) (h3 : n = true → r = true → z = true → k = false → p) (h4 : n = true → r = true → z = true → k = true → p)
 (h5 : n = true → r = true → z = false → l = false → p) (h6 : n = true → r = true → z = false → l = true → k = false → p) (h7 : n = true → r = true → z = false → l = true → k = true → p) : p := by
 cases n
 ·exact h1 rfl
 cases r
 ·exact h2 rfl rfl
 cases z
 ·cases l
  ·exact h5 rfl rfl rfl rfl
  cases k
  ·exact h6 rfl rfl rfl rfl rfl
  ·exact h7 rfl rfl rfl rfl rfl
 ·cases k
  ·exact h3 rfl rfl rfl rfl
  ·exact h4 rfl rfl rfl rfl
set_option maxHeartbeats 4000000 in
set_option maxRecDepth 20000 in
theorem right_at (sc : ByteArray) (av : Value) (l : List Att) (w : World) (h : RdSl w 6 av l.length (atts l)) (hl : l.length ≤ 100000) (hsz : ∀ x ∈ l, x.name.size ≤ 9223372036854775807) :
 Calls Tryz.prog 19 #[.agg #[.string sc, av]] w fun e w' => e = .returned (.bool (evRight l)) ∧ Mod (fun _ => False) w w' := by
 have h0 := h
 obtain ⟨h1, a, cap, rfl, h2, h3, h4⟩ := h
 have hl' : (l.length : Int) ≤ 100000 := by omega
 obtain ⟨R, hR⟩ : ∃ R, evRight l = R := ⟨_, rfl⟩
 rw [hR]
 have HR := Lib.hid hR
 have H0 := Lib.hid h0
 have H4 := Lib.hid h4
 have H1 := Lib.hid h1
 have H3 := Lib.hid h3
 have Hsz := Lib.hid hsz
 clear h0 h4 h1 hl hR h3 hsz
 go_enter Tryz.func19, Tryz.ntmps19
 go_wp2_with fail
 go_loopw [8] (fun i wr => ∃ k : Nat, k ≤ l.length ∧ i = .int .i64 k ∧ Mod (fun _ => False) (w.alloc (.cells #[.string sc, .slice a l.length cap] 46)) wr ∧ (∀ j, j < k → okAt l j = true)) (fun i _ => l.length - (intOf i).toNat)
 case atStart => exact ⟨0, Nat.zero_le _, rfl, Mod.refl _ _, fun j hj => by omega⟩
 case round =>
  obtain ⟨k, hk, rfl, hm, hall⟩ := hrel
  have hbox := hm.heap (heap_alloc_new w _) (by simp)
  have hm0 : Mod (fun _ => False) w wr := ((Mod.refl (fun _ => False) w).alloc _).trans hm (fun _ _ h => h)
  have Hbox := Lib.hid hbox
  have Hm0 := Lib.hid hm0
  have Hall := Lib.hid hall
  have Hm := Lib.hid hm
  clear hbox hm0 hall hm
  by_cases hlt : k < l.length
  ·have hlt' : (k : Int) < l.length := by omega
   obtain ⟨x, hx⟩ : ∃ x, l[k]? = some x := ⟨_, List.getElem?_eq_getElem hlt⟩
   obtain ⟨b, hab⟩ : ∃ b, a = some b := by
    cases a with
    | none => have := H3.out rfl; omega
    | some b => exact ⟨b, rfl⟩
   obtain ⟨p, off, rfl, hc⟩ := H4.out b hab (by omega)
   subst hab
   have hxs : CellsAt wr p (off + k * 6) x.cells := by
    intro j u hu
    have := Hm0.out.cell (hc (6 * k + j) u (atts_at l hx hu)) (by simp)
    rw [show off + k * 6 + j = off + (6 * k + j) by omega]
    exact this
   have c0 : wr.cell? ⟨p, off + k * 6, none⟩ = some (.string x.name) := hxs 0 _ rfl
   have c1 : wr.cell? ⟨p, off + k * 6 + 1, none⟩ = some (.int .i64 x.v.kind) := hxs 1 _ rfl
   have c2 : wr.cell? ⟨p, off + k * 6 + 2, none⟩ = some (.int .i64 x.v.int) := hxs 2 _ rfl
   have c3 : wr.cell? ⟨p, off + k * 6 + 3, none⟩ = some (.float .f64 x.v.num) := hxs 3 _ rfl
   have c4 : wr.cell? ⟨p, off + k * 6 + 4, none⟩ = some (.string x.v.text) := hxs 4 _ rfl
   have c5 : wr.cell? ⟨p, off + k * 6 + 5, none⟩ = some (.bool x.v.yes) := hxs 5 _ rfl
   have Hxs := Lib.hid hxs
   have Hc := Lib.hid hc
   have Hx := Lib.hid hx
   clear hxs hc hx H3 H4
   go_wp2_with (first | (refine wpList_store_new rfl 70 (.tmp 4) (.tmp 12) rfl rfl _ 70 x.cells rfl rfl (by kernel_rfl) (fun u hu => List.all_eq_true.1 (show x.cells.all (·.oneCell') = true from rfl) u hu) ?_) | fail)
   have hW := heap_alloc_new wr (.cells x.cells.toArray 70)
   obtain ⟨q, hq⟩ : ∃ q, l[k - 1]? = some q := ⟨_, List.getElem?_eq_getElem (by omega)⟩
   have hcq : wr.cell? ⟨p, off + (k - 1) * 6, none⟩ = some (.string q.name) := by
    have := Hm0.out.cell (Hc.out (6 * (k - 1) + 0) (.string q.name) (atts_at l hq rfl)) (by simp)
    rw [show off + (k - 1) * 6 = off + (6 * (k - 1) + 0) by omega]
    exact this
   have hf : ∀ w', Mod (fun _ => False) (wr.alloc (.cells x.cells.toArray 70)) w' → w'.cell? ⟨wr.heap.size, 0, none⟩ = some (.string x.name) ∧ AllCells w' wr.heap.size 1 5 ∧ cellsOf w' wr.heap.size 1 5 = x.v.cells.toArray ∧ w'.cell? ⟨w.heap.size, 1, none⟩ = some (.slice (some ⟨p, off, none⟩) l.length cap) ∧ w'.cell? ⟨p, off + (k - 1) * 6, none⟩ = some (.string q.name) := by
    intro w' hw'
    have h1 := hw'.heap hW (by simp)
    have h2 : CellsAt w' wr.heap.size 1 x.v.cells := fun j u hu => by have := CellsAt.row h1 (j + 1) u (by simpa [Att.cells] using hu); rw [show 1 + j = 0 + (j + 1) by omega]; exact this
    have hmq : Mod (fun _ => False) wr w' := ((Mod.refl (fun _ => False) wr).alloc _).trans hw' (fun _ _ h => h)
    exact ⟨cell_of h1 rfl, h2.all rfl, h2.is rfl, cell_of (hw'.heap (heap_old Hbox.out) (by simp)) rfl, hmq.cell hcq (by simp)⟩
   have Hf := Lib.hid hf
   have hname : ∀ w', Mod (fun _ => False) (wr.alloc (.cells x.cells.toArray 70)) w' → Calls Tryz.prog 50 #[.string x.name] w' fun e w'' => e = .returned (.bool (isName x.name)) ∧ Mod (fun _ => False) (wr.alloc (.cells x.cells.toArray 70)) w'' :=
    fun w' hw' => (name_at x.name (Hsz.out x (List.mem_of_getElem? Hx.out)) w').mono fun e w'' h => ⟨h.1, h.2 ▸ hw'⟩
   have hrg : ∀ w', Mod (fun _ => False) (wr.alloc (.cells x.cells.toArray 70)) w' → Calls Tryz.prog 51 #[.agg x.v.cells.toArray] w' fun e w'' => e = .returned (.bool x.v.right) ∧ Mod (fun _ => False) (wr.alloc (.cells x.cells.toArray 70)) w'' :=
    fun w' hw' => (value_right x.v w').mono fun e w'' h => ⟨h.1, hw'.trans h.2 (fun _ _ h => h)⟩
   have hkp : ∀ w', Mod (fun _ => False) (wr.alloc (.cells x.cells.toArray 70)) w' → Calls Tryz.prog 52 #[.agg x.v.cells.toArray] w' fun e w'' => e = .returned (.bool x.v.kept) ∧ Mod (fun _ => False) (wr.alloc (.cells x.cells.toArray 70)) w'' :=
    fun w' hw' => (kept_at x.v w').mono fun e w'' h => ⟨h.1, hw'.trans h.2 (fun _ _ h => h)⟩
   have Hname := Lib.hid hname
   have Hrg := Lib.hid hrg
   have Hkp := Lib.hid hkp
   have hok := okAt_is Hx.out hq
   have Hok := Lib.hid hok
   have hM := Hm.out.alloc (.cells x.cells.toArray 70)
   have HM := Lib.hid hM
   clear hM
   clear hf hW hname hrg hkp hq hcq hok c0 c1 c2 c3 c4 c5
   refine okcases (isName x.name) x.v.right (decide (k = 0)) (Op.bytesLess q.name.toList x.name.toList) x.v.kept (fun hn => ?_) (fun hn hr => ?_) (fun hn hr hz hkt => ?_) (fun hn hr hz hkt => ?_) (fun hn hr hz hls => ?_) (fun hn hr hz hls hkt => ?_) (fun hn hr hz hls hkt => ?_)
   all_goals try rw [hn] at Hname Hok
   all_goals try rw [hr] at Hrg Hok
   all_goals try rw [hkt] at Hkp Hok
   all_goals try rw [hz] at Hok
   all_goals try rw [hls] at Hok
   all_goals try simp only [decide_eq_true_eq, decide_eq_false_iff_not] at hz
   all_goals clear Hx Hxs Hc Hsz
   all_goals try (obtain rfl := hz)
   all_goals try (
    rcases Nat.eq_zero_or_pos k with hk0 | hk0
    ·exfalso; omega
    obtain ⟨m, hmk⟩ : ∃ m, k = m + 1 := ⟨k - 1, by omega⟩
    subst hmk
    have hmw : IntKind.i64.wrap (m : Int) = m := by rw [IntKind.wrap_i64]; omega
    have hml : (m : Int) < l.length := by omega)
   all_goals try rw [Nat.add_sub_cancel] at Hf
   all_goals refine wp_region_news (by kernel_rfl) (by kernel_rfl) ?_
   all_goals
    iterate 32 (first
     | (refine quiet_skip ?_ (fun K hK => ?_)
        ·first | (go_simp; done) | (go_simp; simp [undef]; done)
        go_simp; refine hK _ ?_; clear hK K)
     | (refine quiet_do ?_ ?_ (fun w' hw' => ?_) (fun K hK => ?_)
        ·first | (go_simp; done) | (go_simp; simp [undef]; done)
        rotate_left
        ·obtain ⟨f1, f2, f3, f4, f5⟩ := Hf.out w' hw'
         go_simp
         rfl
        go_simp; refine hK _ ?_; clear hK K)
     | (refine quiet_in ?_ ?_ ?_ ?_ (fun w' hw' => ?_) ?_ (fun K hK => ?_)
        ·first | (go_simp; done) | (go_simp; simp [undef]; done)
        rotate_left 3
        ·obtain ⟨f1, f2, f3, f4, f5⟩ := Hf.out w' hw'
         go_simp
         constructor <;> rfl
        ·first | exact Hname.out | exact Hrg.out | exact Hkp.out
        go_simp; refine hK _ ?_; clear hK K))
   all_goals refine quiet_end (fun w' hw' => ?_)
   all_goals have hM2 := HM.out.trans hw' (fun _ _ h => h)
   all_goals have hM0 := ((Mod.refl (fun _ => False) w).alloc _).trans hM2 (fun _ _ h => h)
   all_goals have HM2 := Lib.hid hM2
   all_goals have HM0 := Lib.hid hM0
   all_goals have Hok' := Lib.hid Hok.out
   all_goals clear hM2 hM0 hw' Hok
   all_goals go_wp2
   all_goals first
    | (go_ret
       exact ⟨congrArg (fun b => Ending.returned (.bool b)) ((evRight_no (by omega) Hok'.out).symm.trans HR.out), HM0.out⟩)
    | (go_roundw
       case rel =>
        refine ⟨_, hlt, by go_num, HM2.out, fun j hj => ?_⟩
        rcases Nat.lt_succ_iff_lt_or_eq.1 hj with hj | rfl
        ·exact Hall.out j hj
        ·exact Hok'.out
       case measure => simp [intOf]; omega)
  ·obtain rfl : k = l.length := by omega
   have hn := evRight_all Hall.out
   rw [HR.out] at hn
   have hd : decide ((l.length : Int) ≤ 8) = R := by rw [hn]; congr 1; apply propext; omega
   have HD := Lib.hid hd
   have cb : wr.cell? ⟨w.heap.size, 1, none⟩ = some (.slice a l.length cap) := cell_of Hbox.out rfl
   clear hn hd
   go_wp2
   go_ret
   exact ⟨congrArg (fun b => Ending.returned (.bool b)) HD.out, Hm0.out⟩
end Go.Proofs.YtaenebdppkjhoaaGreatDoor
namespace Go.Proofs.YtaenebdppkjhoaaGreatDoor
set_option maxRecDepth 20000
open Go.RowKit
theorem cmp_cons (a b : UInt8) (s t : List UInt8) : Lib.compareBytes (a :: s) (b :: t) = if a < b then -1 else if b < a then 1 else Lib.compareBytes s t := by
 rw [Lib.compareBytes]
theorem cmp_less : ∀ a b : List UInt8, (Lib.compareBytes a b < 0) ↔ Op.bytesLess a b = true
 | [], [] => by decide
 | [], b :: t => by simp [Lib.compareBytes, Op.bytesLess]
 | a :: s, [] => by simp [Lib.compareBytes, Op.bytesLess]
 | a :: s, b :: t => by
  rw [less_cons, cmp_cons]
  split
  ·simp
  ·split
   ·simp
   ·exact cmp_less s t
theorem cmp_zero : ∀ a b : List UInt8, (Lib.compareBytes a b = 0) ↔ a = b
 | [], [] => by decide
 | [], b :: t => by simp [Lib.compareBytes]
 | a :: s, [] => by simp [Lib.compareBytes]
 | a :: s, b :: t => by
  rw [cmp_cons]
  split
  ·rename_i h
   constructor
   ·intro h'; cases h'
   ·intro h'; cases h'; exact absurd h (by simp)
  ·rename_i h
   split
   ·rename_i h1
    constructor
    ·intro h'; cases h'
    ·intro h'; cases h'; exact absurd h1 h
   ·rename_i h1
    have hab : a = b := by
     have h2 : ¬ a.toNat < b.toNat := h
     have h3 : ¬ b.toNat < a.toNat := h1
     exact UInt8.toNat.inj (by omega)
    subst hab
    rw [cmp_zero s t]
    simp
theorem less_irrefl : ∀ a : List UInt8, Op.bytesLess a a = false
 | [] => rfl
 | a :: s => by
  have e : ¬ a < a := by simp
  rw [less_cons, if_neg e, if_neg e, less_irrefl s]
end Go.Proofs.YtaenebdppkjhoaaGreatDoor
namespace Go.Proofs.YtaenebdppkjhoaaGreatDoor
set_option maxRecDepth 20000
open Go.RowKit
theorem pos_is : ∀ (l : List Att) (s : ByteArray) (i : Nat), i ≤ l.length → (∀ k x, k < i → l[k]? = some x → Op.bytesLess x.name.data.toList s.data.toList = true) → (∀ x, l[i]? = some x → Op.bytesLess x.name.data.toList s.data.toList = false) → pos l s = i
 | [], s, i, hi, _, _ => by
  have : i = 0 := by simpa using hi
  subst this; rfl
 | a :: l, s, 0, _, _, h => by
  have := h a rfl
  unfold pos
  rw [List.takeWhile_cons, this]
  rfl
 | a :: l, s, i + 1, hi, h1, h2 => by
  have ha := h1 0 a (by omega) rfl
  have ih := pos_is l s i (by simpa using hi) (fun k x hk hx => h1 (k + 1) x (by omega) (by simpa using hx)) (fun x hx => h2 x (by simpa using hx))
  unfold pos at ih ⊢
  rw [List.takeWhile_cons, ha]
  simp only [if_true, List.length_cons, ih]
theorem find1 (x : Att) (s : ByteArray) (w : World) : Calls Tryz.prog 141 #[.agg x.cells.toArray, .string s] w fun e w' => e = .returned (.int .i64 (Lib.compareBytes x.name.data.toList s.data.toList)) ∧ Mod (fun _ => False) w w' := by
 obtain ⟨nm, v⟩ := x
 obtain ⟨wa, hwa⟩ : ∃ wa : World, w.alloc (.cells (⟨nm, v⟩ : Att).cells.toArray 70) = wa := ⟨_, rfl⟩
 have hmwa : Mod (fun _ => False) w wa := hwa ▸ (Mod.refl (fun _ => False) w).alloc _
 have hgwa := heap_alloc_new w (.cells (⟨nm, v⟩ : Att).cells.toArray 70)
 rw [hwa] at hgwa
 have hzwa : wa.heap.size = w.heap.size + 1 := by rw [← hwa]; simp
 have Hc := Lib.hid (cmp_at nm s wa)
 have c0 : wa.cell? ⟨w.heap.size, 0, none⟩ = some (.string nm) := cell_of hgwa rfl
 have Hwa := Lib.hid hwa
 have Hmwa := Lib.hid hmwa
 have Hgwa := Lib.hid hgwa
 have Hzwa := Lib.hid hzwa
 clear hwa hmwa hgwa hzwa
 go_enter Tryz.func141, Tryz.ntmps141
 go_wp2_with (first | (rw [show w.alloc _ = wa from Hwa.out]) | fail)
 refine Hc.out.mono ?_
 rintro e w' ⟨rfl, rfl⟩
 go_wp2
 go_ret
 exact ⟨rfl, Hmwa.out⟩
set_option maxRecDepth 20000 in
set_option maxHeartbeats 4000000 in
theorem bsearch_at (w : World) (a : Option Addr) (cap : Nat) (l : List Att) (hv : RdSl w 6 (.slice a l.length cap) l.length (atts l)) (hll : l.length ≤ 1000000) (hr : rises l) (s : ByteArray) :
 Calls Tryz.prog 140 #[.slice a l.length cap, .string s, .func (.func 141) #[] #[]] w fun e w' =>
  e = .returned (.tuple #[.int .i64 (pos l s), .bool (there l s)]) ∧ Mod (fun _ => False) w w' := by
 have hll' : (l.length : Int) ≤ 1000000 := by omega
 have hcf : ∀ args w, (callFunc 141 args).run Tryz.prog w = .ok (.enter 141 args) w := fun args w => by simp [go_sem]
 obtain ⟨-, a', cap', h1, hcap, hnil, hrd⟩ := hv
 cases h1
 have hcap' : (l.length : Int) ≤ cap := by omega
 have Hr := Lib.hid hr
 have Hrd := Lib.hid hrd
 have Hcf := Lib.hid hcf
 have Hnil := Lib.hid hnil
 clear hr hrd hcf hnil
 go_enter Tryz.func140, Tryz.ntmps140
 go_wp2_with fail
 go_loopw [9, 10] (fun ti tj wr => ∃ i j : Nat, ti = .int .i64 i ∧ tj = .int .i64 j ∧ i ≤ j ∧ j ≤ l.length ∧ Mod (fun _ => False) w wr ∧ (∀ k x, k < i → l[k]? = some x → Op.bytesLess x.name.data.toList s.data.toList = true) ∧
  (∀ k x, j ≤ k → l[k]? = some x → Op.bytesLess x.name.data.toList s.data.toList = false)) (fun ti tj _ => (intOf tj).toNat - (intOf ti).toNat)
 case atStart => exact ⟨0, l.length, rfl, rfl, Nat.zero_le _, Nat.le_refl _, Mod.refl _ _, fun k x hk => by omega, fun k x hk hx => by
  have := (List.getElem?_eq_some_iff.1 hx).1; omega⟩
 case round =>
  obtain ⟨i, j, rfl, rfl, hij, hjl, hm, hlo, hhi⟩ := hrel
  have Hm := Lib.hid hm
  have Hlo := Lib.hid hlo
  have Hhi := Lib.hid hhi
  clear hm hlo hhi
  by_cases hlt : i < j
  ·have hlt' : (i : Int) < j := by omega
   have hj' : (j : Int) ≤ 1000000 := by omega
   obtain ⟨h, hh, hih, hhj⟩ : ∃ h : Nat, ((i : Int) + (j : Int)) / 2 = (h : Int) ∧ i ≤ h ∧ h < j := ⟨(i + j) / 2, by omega, by omega, by omega⟩
   have hhl : (h : Int) < l.length := by omega
   obtain ⟨x, hx⟩ : ∃ x, l[h]? = some x := ⟨_, List.getElem?_eq_getElem (by omega)⟩
   obtain ⟨b, rfl⟩ : ∃ b, a = some b := by
    cases a with
    | none => exact absurd (Hnil.out rfl) (by omega)
    | some b => exact ⟨b, rfl⟩
   obtain ⟨g, off, rfl, hc⟩ := Hrd.out b rfl (by omega)
   have hf : CellsAt wr g (off + h * 6) x.cells := fun q u hu => by
    have := Hm.out.cell (hc (6 * h + q) u (atts_at l hx hu)) (fun h => h)
    rw [show off + h * 6 + q = off + (6 * h + q) by omega]
    exact this
   have c0 : wr.cell? ⟨g, off + h * 6, none⟩ = some (.string x.name) := hf 0 _ rfl
   have c1 : wr.cell? ⟨g, off + h * 6 + 1, none⟩ = some (.int .i64 x.v.kind) := hf 1 _ rfl
   have c2 : wr.cell? ⟨g, off + h * 6 + 2, none⟩ = some (.int .i64 x.v.int) := hf 2 _ rfl
   have c3 : wr.cell? ⟨g, off + h * 6 + 3, none⟩ = some (.float .f64 x.v.num) := hf 3 _ rfl
   have c4 : wr.cell? ⟨g, off + h * 6 + 4, none⟩ = some (.string x.v.text) := hf 4 _ rfl
   have c5 : wr.cell? ⟨g, off + h * 6 + 5, none⟩ = some (.bool x.v.yes) := hf 5 _ rfl
   have hf1 := find1 x s wr
   have hcl := cmp_less x.name.data.toList s.data.toList
   generalize Lib.compareBytes x.name.data.toList s.data.toList = C at hf1 hcl
   have Hx := Lib.hid hx
   have Hc := Lib.hid hc
   have Hf := Lib.hid hf
   have Hf1 := Lib.hid hf1
   have Hcl := Lib.hid hcl
   clear hx hc hf hf1 hcl
   have hcall := Hcf.out
   go_wp2_with fail
   refine Hf1.out.mono ?_
   rintro e w2 ⟨rfl, hm2⟩
   have hm3 := Hm.out.trans hm2 (fun _ _ h => h)
   have Hm3 := Lib.hid hm3
   clear hm3 hm2 hcall Hf1 c0 c1 c2 c3 c4 c5
   by_cases hC : C < 0
   ·have hl : Op.bytesLess x.name.data.toList s.data.toList = true := Hcl.out.1 hC
    have Hl := Lib.hid hl
    clear hl
    go_wp2_with fail
    go_roundw
    case rel =>
     refine ⟨h + 1, j, by go_num, rfl, by omega, hjl, Hm3.out, fun k y hk hy => ?_, Hhi.out⟩
     rcases Nat.lt_succ_iff_lt_or_eq.1 hk with hk | rfl
     ·exact Hr.out.less hk hy Hx.out Hl.out
     ·rw [Hx.out] at hy; cases hy; exact Hl.out
    case measure => simp [intOf]; omega
   ·have hl : Op.bytesLess x.name.data.toList s.data.toList = false := Bool.eq_false_iff.2 fun h => hC (Hcl.out.2 h)
    have Hl := Lib.hid hl
    clear hl
    go_wp2_with fail
    go_roundw
    case rel =>
     refine ⟨i, h, rfl, rfl, hih, by omega, Hm3.out, Hlo.out, fun k y hk hy => ?_⟩
     rcases Nat.lt_or_eq_of_le hk with hk | rfl
     ·exact Hr.out.more hk Hx.out hy Hl.out
     ·rw [Hx.out] at hy; cases hy; exact Hl.out
    case measure => simp [intOf]; omega
  ·obtain rfl : i = j := by omega
   have hpos := pos_is l s i hjl Hlo.out (fun x hx => Hhi.out i x (Nat.le_refl _) hx)
   by_cases hin : i < l.length
   ·have hin' : (i : Int) < l.length := by omega
    obtain ⟨x, hx⟩ : ∃ x, l[i]? = some x := ⟨_, List.getElem?_eq_getElem hin⟩
    obtain ⟨b, rfl⟩ : ∃ b, a = some b := by
     cases a with
     | none => exact absurd (Hnil.out rfl) (by omega)
     | some b => exact ⟨b, rfl⟩
    obtain ⟨g, off, rfl, hc⟩ := Hrd.out b rfl (by omega)
    have hf : CellsAt wr g (off + i * 6) x.cells := fun q u hu => by
     have := Hm.out.cell (hc (6 * i + q) u (atts_at l hx hu)) (fun h => h)
     rw [show off + i * 6 + q = off + (6 * i + q) by omega]
     exact this
    have c0 : wr.cell? ⟨g, off + i * 6, none⟩ = some (.string x.name) := hf 0 _ rfl
    have c1 : wr.cell? ⟨g, off + i * 6 + 1, none⟩ = some (.int .i64 x.v.kind) := hf 1 _ rfl
    have c2 : wr.cell? ⟨g, off + i * 6 + 2, none⟩ = some (.int .i64 x.v.int) := hf 2 _ rfl
    have c3 : wr.cell? ⟨g, off + i * 6 + 3, none⟩ = some (.float .f64 x.v.num) := hf 3 _ rfl
    have c4 : wr.cell? ⟨g, off + i * 6 + 4, none⟩ = some (.string x.v.text) := hf 4 _ rfl
    have c5 : wr.cell? ⟨g, off + i * 6 + 5, none⟩ = some (.bool x.v.yes) := hf 5 _ rfl
    have hf1 := find1 x s wr
    have hth : there l s = (Lib.compareBytes x.name.data.toList s.data.toList == 0) := by
     unfold there
     rw [hpos, hx]
     have := cmp_zero x.name.data.toList s.data.toList
     rw [Bool.eq_iff_iff, beq_iff_eq, beq_iff_eq, this]
    generalize Lib.compareBytes x.name.data.toList s.data.toList = C at hf1 hth
    have Hx := Lib.hid hx
    have Hc := Lib.hid hc
    have Hf := Lib.hid hf
    have Hf1 := Lib.hid hf1
    have Hpos := Lib.hid hpos
    have Hth := Lib.hid hth
    clear hx hc hf hf1 hpos hth
    have hcall := Hcf.out
    go_wp2_with fail
    refine Hf1.out.mono ?_
    rintro e w2 ⟨rfl, hm2⟩
    have hm3 := Hm.out.trans hm2 (fun _ _ h => h)
    have Hm3 := Lib.hid hm3
    clear hm3 hm2 hcall Hf1 c0 c1 c2 c3 c4 c5
    go_wp2
    go_ret2
    exact ⟨by rw [Hpos.out, Hth.out]; rfl, Hm3.out⟩
   ·have hin' : (l.length : Int) ≤ i := by omega
    have hth : there l s = false := by
     unfold there
     rw [hpos, List.getElem?_eq_none (by omega)]
    have Hpos := Lib.hid hpos
    have Hth := Lib.hid hth
    clear hpos hth
    go_wp2
    go_ret2
    exact ⟨by rw [Hpos.out, Hth.out]; rfl, Hm.out⟩
set_option maxHeartbeats 1000000 in
theorem find_at (w : World) (sc : ByteArray) (av : Value) (l : List Att) (hv : RdSl w 6 av l.length (atts l)) (hll : l.length ≤ 1000000) (hr : rises l) (s : ByteArray) :
 Calls Tryz.prog 108 #[.agg #[.string sc, av], .string s] w fun e w' => e = .returned (.tuple #[.int .i64 (pos l s), .bool (there l s)]) ∧ Mod (fun _ => False) w w' := by
 obtain ⟨a, cap, rfl⟩ : ∃ a c, av = .slice a l.length c := by obtain ⟨-, a, c, h, -⟩ := hv; exact ⟨a, c, h⟩
 obtain ⟨wa, hwa⟩ : ∃ wa : World, w.alloc (.cells #[.string sc, .slice a l.length cap] 46) = wa := ⟨_, rfl⟩
 have hmwa : Mod (fun _ => False) w wa := hwa ▸ (Mod.refl (fun _ => False) w).alloc _
 have hgwa := heap_alloc_new w (.cells #[.string sc, .slice a l.length cap] 46)
 rw [hwa] at hgwa
 have hzwa : wa.heap.size = w.heap.size + 1 := by rw [← hwa]; simp
 have c0 : wa.cell? ⟨w.heap.size, 1, none⟩ = some (.slice a l.length cap) := cell_of hgwa rfl
 have Hb := Lib.hid (bsearch_at wa a cap l (hv.mod hmwa (fun _ _ h => h)) hll hr s)
 have Hwa := Lib.hid hwa
 have Hmwa := Lib.hid hmwa
 have Hgwa := Lib.hid hgwa
 have Hzwa := Lib.hid hzwa
 clear hwa hmwa hgwa hzwa hv hr
 go_enter Tryz.func108, Tryz.ntmps108
 go_wp2_with (first | (rw [show w.alloc _ = wa from Hwa.out]) | fail)
 refine Hb.out.mono ?_
 rintro e w' ⟨rfl, hm⟩
 have Hm := Lib.hid hm
 clear hm
 go_wp2
 go_ret2
 exact ⟨rfl, Hmwa.out.trans Hm.out (fun _ _ h => h)⟩
end Go.Proofs.YtaenebdppkjhoaaGreatDoor
namespace Go.Proofs.YtaenebdppkjhoaaGreatDoor
set_option maxRecDepth 20000
open Go.RowKit
section
variable {P : Program} {ops : Array Oper} {Q : Exit → Act → World → Prop} {md : Region.Mode} {T : Nat → Bool}
def wpAnyR (P : Program) (md : Region.Mode) (ops : Array Oper) (Q : Exit → Act → World → Prop) (T : Nat → Bool) : Nat → Array Bool → Act → World → Prop
 | 0, listed, a, w => Region.ready md ops listed = [] ∧ Q .normal a w
 | fuel + 1, listed, a, w =>
  (Region.ready md ops listed = [] → Q .normal a w) ∧
  ∀ i ∈ Region.ready md ops listed, wpOp P ops Q i (fun a' w' => (T i = true → Mod (fun _ => False) w w') ∧ wpAnyR P md ops Q T fuel (listed.setIfInBounds i true) a' w') a w
theorem wpAny_of_R : ∀ (fuel : Nat) (listed : Array Bool) (a : Act) (w : World), wpAnyR P md ops Q T fuel listed a w → wpAny P md ops Q fuel listed a w
 | 0, _, _, _, h => h
 | fuel + 1, _, _, _, h => ⟨h.1, fun i hi => wpOp_mono (fun a' w' h' => wpAny_of_R fuel _ a' w' h'.2) (h.2 i hi)⟩
theorem wpAnyR_first {S' : World → Prop} {i : Nat} {oi : Oper} {v : Value} (hi : ops[i]? = some oi) (hsel : ∀ (j : Nat) (o : Oper) cs b, ops[j]? = some o → o.op ≠ .select cs b)
 (hQ : ∀ c a w, Q (.panic c) (a.put oi.dst v) w → Q (.panic c) a w) :
 ∀ (fuel : Nat) (listed : Array Bool) (a : Act) (w : World), ClosedL md ops listed →
  (∀ j oj, ops[j]? = some oj → j ≠ i → listed.getD j true = false → (∀ e ∈ oj.after, Region.binds md e = true → e.on ≠ i) → oi.apart ops oj = true) →
  (∀ j, j < ops.size → j ≠ i → listed.getD j true = false → reachB md ops ops.size j i = false → ∀ w w', (T j = true → Mod (fun _ => False) w w') → S' w → S' w') →
  i ∈ Region.ready md ops listed → YieldsIf P ops S' oi v a → S' w →
  wpAnyR P md ops Q T fuel (listed.setIfInBounds i true) (a.put oi.dst v) w → wpAnyR P md ops Q T (fuel + 1) listed a w := by
 intro fuel
 induction fuel with
 | zero =>
  intro listed a w hc _ _ hr hy hS' H
  refine ⟨fun h => (by rw [h] at hr; cases hr), fun j hj => ?_⟩
  by_cases hji : j = i
  ·subst hji; exact hy.wpOp hi hS' ⟨fun _ => Mod.refl _ _, H⟩
  ·have := ready_mono hj hji
   rw [H.1] at this
   cases this
 | succ fuel ih =>
  intro listed a w hc hfree hT hr hy hS' H
  refine ⟨fun h => (by rw [h] at hr; cases hr), fun j hj => ?_⟩
  by_cases hji : j = i
  ·subst hji; exact hy.wpOp hi hS' ⟨fun _ => Mod.refl _ _, H⟩
  ·have h1 := H.2 j (ready_mono hj hji)
   obtain ⟨hjun, oj, hoj, hall⟩ := mem_ready.1 hj
   have hiun : listed.getD i false = false := by
    have h0 := (mem_ready.1 hr).1
    rcases Nat.lt_or_ge i listed.size with h' | h'
    ·simp [h'] at h0 ⊢; exact h0
    ·simp [Array.getElem?_eq_none h'] at h0
   have hnot : ∀ e ∈ oj.after, Region.binds md e = true → e.on ≠ i := fun e he hb heq => by
    have h1 := hall e he hb
    rw [heq, hiun] at h1
    cases h1
   have hreach : reachB md ops ops.size j i = false := by
    cases hb : reachB md ops ops.size j i with
    | false => rfl
    | true => have := reach_ready hc hj hb; rw [hiun] at this; cases this
   have h2 := wpOp_putIf hoj (hfree j oj hoj hji hjun hnot) (fun cs b => hsel i oi cs b hi) (fun cs b => hsel j oj cs b hoj) hQ hy h1
   have hfree' : ∀ k ok, ops[k]? = some ok → k ≠ i → (listed.setIfInBounds j true).getD k true = false →
    (∀ e ∈ ok.after, Region.binds md e = true → e.on ≠ i) → oi.apart ops ok = true := fun k ok hk hki hun hno => by
    refine hfree k ok hk hki ?_ hno
    by_cases hjk : j = k
    ·subst hjk; exact hjun
    ·rw [getD_set_ne true hjk] at hun; exact hun
   have hT' : ∀ k, k < ops.size → k ≠ i → (listed.setIfInBounds j true).getD k true = false → reachB md ops ops.size k i = false → ∀ w w', (T k = true → Mod (fun _ => False) w w') → S' w → S' w' := fun k hks hki hun hno => by
    refine hT k hks hki ?_ hno
    by_cases hjk : j = k
    ·subst hjk; exact hjun
    ·rw [getD_set_ne true hjk] at hun; exact hun
   have hSj := hT j (Array.getElem?_eq_some_iff.1 hoj).1 hji hjun hreach
   refine wpOp_mono (fun a' w' h3 => ?_) h2
   obtain ⟨hy3, hTS, H3⟩ := h3
   exact ⟨hTS, ih (listed.setIfInBounds j true) a' w' (hc.set hj) hfree' hT' (ready_mono hr (Ne.symm hji)) hy3 (hSj w w' hTS hS') (by rw [Array.setIfInBounds_comm _ _ hji]; exact H3)⟩
def goR (P : Program) (ops : Array Oper) (Q : Exit → Act → World → Prop) (T : Nat → Bool) (i : Nat) (K : Act → World → Prop) (a : Act) (w : World) : Prop :=
 wpOp P ops Q i (fun a' w' => (T i = true → Mod (fun _ => False) w w') ∧ K a' w') a w
def walkR (P : Program) (ops : Array Oper) (Q : Exit → Act → World → Prop) (T : Nat → Bool) : List Stp → Act → World → Prop
 | [], a, w => Q .normal a w
 | .rd i :: r, a, w => ∀ o, ops[i]? = some o → ∃ S : World → Prop, (∀ w w', Mod (fun _ => False) w w' → S w → S w') ∧ (pureOp o.op = false → S w) ∧ ∃ v, YieldsIf P ops (fun w => pureOp o.op = false → S w) o v a ∧ walkR P ops Q T r (a.put o.dst v) w
 | .go i :: r, a, w => goR P ops Q T i (fun a' w' => walkR P ops Q T r a' w') a w
 | .both i j :: r, a, w => goR P ops Q T i (goR P ops Q T j (fun a' w' => walkR P ops Q T r a' w')) a w ∧ goR P ops Q T j (goR P ops Q T i (fun a' w' => walkR P ops Q T r a' w')) a w
theorem goR_mono {i : Nat} {K K' : Act → World → Prop} {a : Act} {w : World} (h : ∀ a w, K a w → K' a w) (hh : goR P ops Q T i K a w) : goR P ops Q T i K' a w :=
 wpOp_mono (fun a' w' h' => ⟨h'.1, h a' w' h'.2⟩) hh
theorem walkR_all (hsel : Region.noSelect ops = true) (hQ : ∀ (c : List PanicEntry) (a : Act) (d : Option Tmp) (v : Value) (w : World), Q (.panic c) (a.put d v) w → Q (.panic c) a w) :
 ∀ (r : List Stp) (listed : Array Bool) (a : Act) (w : World), scriptOk md ops T r listed = true → ClosedL md ops listed → walkR P ops Q T r a w → wpAnyR P md ops Q T (count r) listed a w
 | [], listed, a, w, hok, _, h => by
  simp only [scriptOk, List.isEmpty_iff] at hok
  exact ⟨hok, h⟩
 | .rd i :: r, listed, a, w, hok, hc, h => by
  simp only [scriptOk, Bool.and_eq_true, decide_eq_true_eq] at hok
  obtain ⟨⟨⟨⟨hi, hf⟩, hr⟩, hp⟩, hok⟩ := hok
  obtain ⟨o, ho⟩ : ∃ o, ops[i]? = some o := ⟨_, Array.getElem?_eq_getElem hi⟩
  obtain ⟨S, hstab, hSw, v, hy, h⟩ := h o ho
  have hri : i ∈ Region.ready md ops listed := by simpa using hr
  exact wpAnyR_first (T := T) (S' := fun w => pureOp o.op = false → S w) ho (Region.noSelect_spec hsel) (fun c a w => hQ c a o.dst v w) (count r) listed a w hc (Region.free_spec ho hf)
   (fun j hj hji hun hre w w' hT h hpf => by
     simp only [ho, Option.map_some, Option.getD_some, hpf, Bool.false_or, List.all_eq_true, List.mem_range, Bool.or_eq_true, beq_iff_eq] at hp
     rcases hp j hj with ((h1 | h1) | h1) | h1
     ·exact absurd h1 hji
     ·rw [hun] at h1; cases h1
     ·rw [hre] at h1; cases h1
     ·exact hstab _ _ (hT h1) (h hpf))
   hri hy hSw (walkR_all hsel hQ r (listed.setIfInBounds i true) (a.put o.dst v) w hok (hc.set hri) h)
 | .go i :: r, listed, a, w, hok, hc, h => by
  simp only [scriptOk, Bool.and_eq_true, beq_iff_eq] at hok
  obtain ⟨hr, hok⟩ := hok
  have hri : i ∈ Region.ready md ops listed := by rw [hr]; simp
  refine ⟨fun h0 => (by rw [hr] at h0; cases h0), fun j hj => ?_⟩
  rw [hr] at hj
  obtain rfl : j = i := by simpa using hj
  have h : goR P ops Q T j (fun a' w' => walkR P ops Q T r a' w') a w := h
  exact wpOp_mono (fun a' w' h' => ⟨h'.1, walkR_all hsel hQ r _ a' w' hok (hc.set hri) h'.2⟩) h
 | .both i j :: r, listed, a, w, hok, hc, h => by
  simp only [scriptOk, Bool.and_eq_true, beq_iff_eq, decide_eq_true_eq] at hok
  obtain ⟨⟨⟨⟨hij, hr⟩, hr1⟩, hr2⟩, hok⟩ := hok
  have hri : i ∈ Region.ready md ops listed := by rw [hr]; simp
  have hrj : j ∈ Region.ready md ops listed := by rw [hr]; simp
  have hrj2 : j ∈ Region.ready md ops (listed.setIfInBounds i true) := by rw [hr1]; simp
  refine ⟨fun h0 => (by rw [hr] at h0; cases h0), fun k hk => ?_⟩
  rw [hr] at hk
  have hk' : k = i ∨ k = j := by simpa using hk
  have hA : goR P ops Q T i (goR P ops Q T j (fun a' w' => walkR P ops Q T r a' w')) a w := h.1
  have hB : goR P ops Q T j (goR P ops Q T i (fun a' w' => walkR P ops Q T r a' w')) a w := h.2
  rcases hk' with rfl | rfl
  ·refine wpOp_mono (fun a' w' h' => ⟨h'.1, ?_⟩) hA
   refine ⟨fun h0 => (by rw [hr1] at h0; cases h0), fun k' hk' => ?_⟩
   rw [hr1] at hk'
   obtain rfl : k' = j := by simpa using hk'
   exact wpOp_mono (fun a' w' h' => ⟨h'.1, walkR_all hsel hQ r _ a' w' hok ((hc.set hri).set hrj2) h'.2⟩) h'.2
  ·refine wpOp_mono (fun a' w' h' => ⟨h'.1, ?_⟩) hB
   refine ⟨fun h0 => (by rw [hr2] at h0; cases h0), fun k' hk' => ?_⟩
   rw [hr2] at hk'
   obtain rfl : k' = i := by simpa using hk'
   rw [Array.setIfInBounds_comm _ _ hij.symm]
   exact wpOp_mono (fun a' w' h' => ⟨h'.1, walkR_all hsel hQ r _ a' w' hok ((hc.set hri).set hrj2) h'.2⟩) h'.2
structure WR (P : Program) (ops : Array Oper) (Q : Exit → Act → World → Prop) (T : Nat → Bool) (r : List Stp) (a : Act) (w : World) : Prop where
 out : walkR P ops Q T r a w
structure GR (P : Program) (ops : Array Oper) (Q : Exit → Act → World → Prop) (T : Nat → Bool) (i : Nat) (K : Act → World → Prop) (a : Act) (w : World) : Prop where
 out : goR P ops Q T i K a w
theorem wp_region_news2 {id : Nat} {a : Act} {w : World} {l : List Oper} (r : List Stp) (ks : List Nat) (hm : P.follows .mixedOrders = true)
 (hB : (Region.noSelect l.toArray && (decide (count r = l.length) && scriptOk .any l.toArray (fun j => ks.contains j) r (Array.replicate l.toArray.size false))) = true)
 (hQ : ∀ (c : List PanicEntry) (a : Act) (d : Option Tmp) (v : Value) (w : World), Q (.panic c) (a.put d v) w → Q (.panic c) a w)
 (h : WR P l.toArray Q (fun j => ks.contains j) r a w.drew) : (Code.region id l.toArray true).wp P Q a w := by
 simp only [Bool.and_eq_true, decide_eq_true_eq] at hB
 obtain ⟨hsel, hlen, hok⟩ := hB
 have hcl : ClosedL .any l.toArray (Array.replicate l.toArray.size false) := fun j oj _ hl => by
  exfalso
  rcases Nat.lt_or_ge j l.toArray.size with h' | h' <;> simp_all
 refine wp_region_any hm (wpAny_of_R (T := fun j => ks.contains j) _ _ _ _ ?_)
 have key := walkR_all (md := .any) (ops := l.toArray) (P := P) (Q := Q) (T := fun j => ks.contains j) hsel hQ r (Array.replicate l.toArray.size false) a w.drew hok hcl h.out
 rw [hlen] at key
 simpa using key
theorem news_nil {a : Act} {w : World} (h : Q .normal a w) : WR P ops Q T [] a w := ⟨h⟩
theorem news_rd {i : Nat} {r : List Stp} {o : Oper} {a : Act} {w : World} (ho : ops[i]? = some o) (hp : pureOp o.op = false) (hw : Region.wanted o (yielded ops a.tmps) = true) (S : World → Prop) (hst : ∀ w w', Mod (fun _ => False) w w' → S w → S w') (hSw : S w) (v : Value)
 (hy : ∀ w, S w → (execOp a.eval o).run P w = .ok (.value v) w)
 (h : ∀ K : Act → Prop, (∀ a', WR P ops Q T r a' w → K a') → K (a.put o.dst v)) : WR P ops Q T (.rd i :: r) a w :=
 ⟨fun o' ho' => by
  obtain rfl : o = o' := Option.some.inj (ho.symm.trans ho')
  exact ⟨S, hst, fun _ => hSw, v, .inl ⟨hw, fun w0 h0 => hy w0 (h0 hp)⟩, h _ fun _ h => h.out⟩⟩
theorem news_pure {i : Nat} {r : List Stp} {o : Oper} {a : Act} {w : World} (ho : ops[i]? = some o) (hw : Region.wanted o (yielded ops a.tmps) = true) (v : Value)
 (hy : ∀ w, (execOp a.eval o).run P w = .ok (.value v) w)
 (h : ∀ K : Act → Prop, (∀ a', WR P ops Q T r a' w → K a') → K (a.put o.dst v)) : WR P ops Q T (.rd i :: r) a w :=
 ⟨fun o' ho' => by
  obtain rfl : o = o' := Option.some.inj (ho.symm.trans ho')
  exact ⟨fun _ => True, fun _ _ _ h => h, fun _ => trivial, v, .inl ⟨hw, fun w0 _ => hy w0⟩, h _ fun _ h => h.out⟩⟩
theorem newsgo_yes {i : Nat} {o : Oper} {K : Act → World → Prop} {a : Act} {w : World} (ho : ops[i]? = some o) (hw : Region.wanted o (yielded ops a.tmps) = true)
 (h : ∀ K' : Act → World → Prop, (∀ a' w', (T i = true → Mod (fun _ => False) w w') → K a' w' → K' a' w') → o.wp P a w K' Q) : GR P ops Q T i K a w := by
 constructor
 unfold goR wpOp
 simp only [ho]
 rw [if_pos hw]
 exact .inl (h _ fun _ _ h1 h2 => ⟨h1, h2⟩)
theorem news_one {i : Nat} {r : List Stp} {a : Act} {w : World} (h : GR P ops Q T i (fun a' w' => WR P ops Q T r a' w') a w) : WR P ops Q T (.go i :: r) a w := by
 constructor
 show goR P ops Q T i (fun a' w' => walkR P ops Q T r a' w') a w
 exact goR_mono (fun _ _ h' => h'.out) h.out
end
end Go.Proofs.YtaenebdppkjhoaaGreatDoor
namespace Go.Proofs.YtaenebdppkjhoaaGreatDoor
set_option maxRecDepth 20000
open Go.RowKit
set_option maxHeartbeats 2000000 in
theorem match_over (f : Cnd → Bool) (w : World) (sc : ByteArray) (cv : Value) (l : List Cnd) (es : ByteArray) (ev : Value) (ea : Option Addr) (en ec : Nat) (hev : ev = .slice ea en ec) (hv : RdSl w 7 cv l.length (cnds l)) (hll : l.length ≤ 9223372036854775807) (hsc : sc.size ≤ 9223372036854775807) (hes : es.size ≤ 9223372036854775807)
 (hm : ∀ c ∈ l, ∀ wx, Mod (fun _ => False) w wx → Calls Tryz.prog 120 #[.agg c.cells.toArray, .agg #[.string es, ev]] wx fun e w' => e = .returned (.bool (f c)) ∧ Mod (fun _ => False) wx w') :
 Calls Tryz.prog 91 #[.agg #[.string sc, cv], .agg #[.string es, ev]] w fun e w' => e = .returned (.bool (l.all f && underB es sc)) ∧ Mod (fun _ => False) w w' := by
 subst hev
 obtain ⟨a, cap, rfl, hcap⟩ : ∃ a c, cv = .slice a l.length c ∧ l.length ≤ c := by obtain ⟨-, a, c, h, h2, -⟩ := hv; exact ⟨a, c, h, h2⟩
 have hll' : (l.length : Int) ≤ 9223372036854775807 := by omega
 have hcap' : (l.length : Int) ≤ cap := by omega
 obtain ⟨wa, hwa⟩ : ∃ wa : World, w.alloc (.cells #[.string sc, .slice a l.length cap] 33) = wa := ⟨_, rfl⟩
 have hmwa : Mod (fun _ => False) w wa := hwa ▸ (Mod.refl (fun _ => False) w).alloc _
 have hgwa := heap_alloc_new w (.cells #[.string sc, .slice a l.length cap] 33)
 rw [hwa] at hgwa
 have hzwa : wa.heap.size = w.heap.size + 1 := by rw [← hwa]; simp
 obtain ⟨wb, hwb⟩ : ∃ wb : World, wa.alloc (.cells #[.string es, .slice ea en ec] 46) = wb := ⟨_, rfl⟩
 have hmwb : Mod (fun _ => False) wa wb := hwb ▸ (Mod.refl (fun _ => False) wa).alloc _
 have hgwb := heap_alloc_new wa (.cells #[.string es, .slice ea en ec] 46)
 rw [hwb] at hgwb
 have hzwb : wb.heap.size = wa.heap.size + 1 := by rw [← hwb]; simp
 have hmb := hmwa.trans hmwb (fun _ _ h => h)
 have hva := hv.mod hmb (fun _ _ h => h)
 have hg := hmwb.heap hgwa (fun h => h)
 have c0 : wb.cell? ⟨w.heap.size, 0, none⟩ = some (.string sc) := cell_of hg rfl
 have c1 : wb.cell? ⟨w.heap.size, 1, none⟩ = some (.slice a l.length cap) := cell_of hg rfl
 obtain ⟨R, hR⟩ : ∃ R, (l.all f && underB es sc) = R := ⟨_, rfl⟩
 rw [hR]
 have hqz : w.heap.size < wa.heap.size := by omega
 have Hv := Lib.hid hv
 have Hm := Lib.hid hm
 have Hwa := Lib.hid hwa
 have Hwb := Lib.hid hwb
 have Hmb := Lib.hid hmb
 have Hgwa := Lib.hid hgwa
 have Hgwb := Lib.hid hgwb
 have Hva := Lib.hid hva
 have HR := Lib.hid hR
 have Hg := Lib.hid hg
 have Hsc := Lib.hid hsc
 have Hes := Lib.hid hes
 have Hmwa := Lib.hid hmwa
 have Hmwb := Lib.hid hmwb
 clear hv hm hwa hwb hmb hgwa hgwb hva hR hg hsc hes hmwa hmwb hzwa hzwb hll
 go_enter Tryz.func91, Tryz.ntmps91
 go_wp2_with (first | (rw [show w.alloc _ = wa from Hwa.out]) | (rw [show wa.alloc _ = wb from Hwb.out]) | fail)
 go_loopw [10] (fun i wr => ∃ j : Nat, i = .int .i64 j ∧ j ≤ l.length ∧ Mod (fun _ => False) wb wr ∧ (∀ (k : Nat) (x : Cnd), k < j → l[k]? = some x → f x = true)) (fun i _ => l.length - (intOf i).toNat)
 case atStart => exact ⟨0, rfl, Nat.zero_le _, Mod.refl _ _, fun k x hk => by omega⟩
 case round =>
  obtain ⟨j, rfl, hj, hmr, hall⟩ := hrel
  by_cases hlt : j < l.length
  ·have hlt' : (j : Int) < l.length := by omega
   obtain ⟨x, hxj⟩ : ∃ x, l[j]? = some x := ⟨_, List.getElem?_eq_getElem hlt⟩
   have hxm := List.mem_of_getElem? hxj
   obtain ⟨g, off, rfl, hf⟩ : ∃ g off, a = some ⟨g, off, none⟩ ∧ CellsAt wr g (off + j * 7) x.cells := rd_cnd (Hva.out.mod hmr (fun _ _ h => h)) hxj
   obtain ⟨wz, hwz⟩ : ∃ wz : World, wr.alloc (.cells x.cells.toArray 132) = wz := ⟨_, rfl⟩
   have hmwz : Mod (fun _ => False) wr wz := hwz ▸ (Mod.refl (fun _ => False) wr).alloc _
   have hgwz := heap_alloc_new wr (.cells x.cells.toArray 132)
   rw [hwz] at hgwz
   have hzwz : wz.heap.size = wr.heap.size + 1 := by rw [← hwz]; simp
   have hmz := hmr.trans hmwz (fun _ _ h => h)
   have hge := hmz.heap Hgwb.out (fun h => h)
   have e0 : wz.cell? ⟨wa.heap.size, 0, none⟩ = some (.string es) := cell_of hge rfl
   have e1 : wz.cell? ⟨wa.heap.size, 1, none⟩ = some (.slice ea en ec) := cell_of hge rfl
   have hcr := Hm.out x hxm wz (Hmb.out.trans hmz (fun _ _ h => h))
   have Hmr := Lib.hid hmr
   have Hall := Lib.hid hall
   have Hxj := Lib.hid hxj
   have Hxm := Lib.hid hxm
   have Hf := Lib.hid hf
   have Hwz := Lib.hid hwz
   have Hmwz := Lib.hid hmwz
   have Hgwz := Lib.hid hgwz
   have Hmz := Lib.hid hmz
   have Hcr := Lib.hid hcr
   clear hmr hall hxj hxm hf hwz hmwz hgwz hmz hcr hzwz hge c0 c1
   go_wp2_with (first | ((with_reducible refine wpList_load_lit 132 (.tmp 12) ?_); refine ⟨g, off + j * 7, rfl, x.cells, Hf.out, by kernel_rfl, by kernel_rfl, ?_⟩) | ((with_reducible refine wpList_store_lit 132 (.tmp 6) (.tmp 13) ?_); refine ⟨rfl, x.cells, rfl, rfl, by kernel_rfl, rfl, ?_⟩; rw [Hwz.out]) | ((with_reducible refine wpList_load_lit 132 (.tmp 6) ?_); refine ⟨wr.heap.size, 0, rfl, x.cells, CellsAt.row Hgwz.out, by kernel_rfl, by kernel_rfl, ?_⟩) | fail)
   refine Hcr.out.mono ?_
   rintro e w3 ⟨rfl, hm3⟩
   have Hm3 := Lib.hid (Hmz.out.trans hm3 (fun _ _ h => h))
   clear hm3 e0 e1
   cases hs : f x with
   | true =>
    have Hs := Lib.hid hs
    clear hs
    go_wp2_with fail
    go_roundw
    case rel =>
     refine ⟨j + 1, by go_num, hlt, Hm3.out, fun k x' hk hx' => ?_⟩
     rcases Nat.lt_succ_iff_lt_or_eq.1 hk with hk | rfl
     ·exact Hall.out k x' hk hx'
     ·rw [Hxj.out] at hx'; cases hx'; exact Hs.out
    case measure => simp [intOf]; omega
   | false =>
    have Hs := Lib.hid hs
    clear hs
    go_wp2
    go_ret
    refine ⟨?_, Hmb.out.trans Hm3.out (fun _ _ h => h)⟩
    rw [← HR.out, List.all_eq_false.2 ⟨x, Hxm.out, by rw [Hs.out]; decide⟩, Bool.false_and]
    rfl
  ·obtain rfl : j = l.length := by omega
   have hgr := hmr.heap Hg.out (fun h => h)
   have hge := hmr.heap Hgwb.out (fun h => h)
   have c0 : wr.cell? ⟨w.heap.size, 0, none⟩ = some (.string sc) := cell_of hgr rfl
   have e0 : wr.cell? ⟨wa.heap.size, 0, none⟩ = some (.string es) := cell_of hge rfl
   have hun := under_at es sc Hes.out Hsc.out wr
   have hfr : R = underB es sc := by
    rw [← HR.out, List.all_eq_true.2 fun x hx => by
     obtain ⟨k, hk⟩ := List.mem_iff_getElem?.1 hx
     exact hall k x (List.getElem?_eq_some_iff.1 hk).1 hk, Bool.true_and]
   have hmr2 := Hmb.out.trans hmr (fun _ _ h => h)
   have Hmr2 := Lib.hid hmr2
   have Hun := Lib.hid hun
   have Hfr := Lib.hid hfr
   clear hmr2 hun hfr hmr hall hgr hge
   go_wp2_with fail
   refine Hun.out.mono ?_
   rintro e w3 ⟨rfl, rfl⟩
   go_wp2
   go_ret
   refine ⟨?_, Hmr2.out⟩
   rw [Hfr.out]
   rfl
set_option maxHeartbeats 4000000 in
theorem may_publish (m : Ru → Bool) (w : World) (v : Value) (l : List Ru) (hv : RuSl w v l) (hll : l.length ≤ 9223372036854775807) (tenant : Int) (who : ByteArray) (es : ByteArray) (ea : Option Addr) (en ec : Nat)
 (hm : ∀ r ∈ l, ∀ wx, Mod (fun _ => False) w wx → Calls Tryz.prog 91 #[.agg #[.string r.sc, r.cv], .agg #[.string es, .slice ea en ec]] wx fun e w' => e = .returned (.bool (m r)) ∧ Mod (fun _ => False) wx w') :
 Calls Tryz.prog 55 #[v, .int .i64 tenant, .string who, .agg #[.string es, .slice ea en ec]] w fun e w' =>
  e = .returned (.bool ((homeOf l tenant who).isSome && l.any fun r => r.of 1 tenant who && m r)) ∧ Mod (fun _ => False) w w' := by
 obtain ⟨a, cap, rfl, hcap⟩ : ∃ a c, v = .slice a l.length c ∧ l.length ≤ c := by obtain ⟨-, a, c, h, h2, -⟩ := hv.rd; exact ⟨a, c, h, h2⟩
 have hll' : (l.length : Int) ≤ 9223372036854775807 := by omega
 have hcap' : (l.length : Int) ≤ cap := by omega
 obtain ⟨wa, hwa⟩ : ∃ wa : World, w.alloc (.cells #[.string es, .slice ea en ec] 46) = wa := ⟨_, rfl⟩
 have hmwa : Mod (fun _ => False) w wa := hwa ▸ (Mod.refl (fun _ => False) w).alloc _
 have hgwa := heap_alloc_new w (.cells #[.string es, .slice ea en ec] 46)
 rw [hwa] at hgwa
 have hzwa : wa.heap.size = w.heap.size + 1 := by rw [← hwa]; simp
 have hva := hv.mod hmwa
 have hho := home_at wa (.slice a l.length cap) l hva hll tenant who
 have hqz : w.heap.size < wa.heap.size := by omega
 obtain ⟨R, hR⟩ : ∃ R, ((homeOf l tenant who).isSome && l.any fun r => r.of 1 tenant who && m r) = R := ⟨_, rfl⟩
 rw [hR]
 have Hv := Lib.hid hv
 have Hm := Lib.hid hm
 have Hwa := Lib.hid hwa
 have Hmwa := Lib.hid hmwa
 have Hgwa := Lib.hid hgwa
 have Hva := Lib.hid hva
 have Hho := Lib.hid hho
 have HR := Lib.hid hR
 clear hv hm hwa hmwa hgwa hva hho hR hzwa hll
 go_enter Tryz.func55, Tryz.ntmps55
 go_wp2_with (first | (rw [show w.alloc _ = wa from Hwa.out]) | fail)
 refine Hho.out.mono ?_
 rintro e w1 ⟨rfl, hm1⟩
 have hm01 := Hmwa.out.trans hm1 (fun _ _ h => h)
 have hg1 := hm1.heap Hgwa.out (fun h => h)
 have Hm01 := Lib.hid hm01
 have Hg1 := Lib.hid hg1
 clear hm01 hg1 hm1 Hho
 cases hh : homeOf l tenant who with
 | none =>
  have Hh := Lib.hid hh
  clear hh
  go_wp2
  go_ret
  refine ⟨?_, Hm01.out⟩
  rw [← HR.out, Hh.out]
  rfl
 | some h0 =>
 have hR2 : (l.any fun r => r.of 1 tenant who && m r) = R := by rw [← HR.out, hh]; rfl
 have HR2 := Lib.hid hR2
 clear hR2 hh HR
 go_wp2_with fail
 go_loopw [24] (fun i wr => ∃ j : Nat, i = .int .i64 j ∧ j ≤ l.length ∧ Mod (fun _ => False) w1 wr ∧ (∀ (k : Nat) (x : Ru), k < j → l[k]? = some x → (x.of 1 tenant who && m x) = false)) (fun i _ => l.length - (intOf i).toNat)
 case atStart => exact ⟨0, rfl, Nat.zero_le _, Mod.refl _ _, fun k x hk => by omega⟩
 case round =>
  obtain ⟨j, rfl, hj, hmr, hall⟩ := hrel
  by_cases hlt : j < l.length
  ·have hlt' : (j : Int) < l.length := by omega
   obtain ⟨x, hxj⟩ : ∃ x, l[j]? = some x := ⟨_, List.getElem?_eq_getElem hlt⟩
   have hxm := List.mem_of_getElem? hxj
   have hm0r := Hm01.out.trans hmr (fun _ _ h => h)
   obtain ⟨g, off, rfl, hf⟩ : ∃ g off, a = some ⟨g, off, none⟩ ∧ CellsAt wr g (off + j * 8) x.cells := rd_rule (Hv.out.mod hm0r) hxj
   obtain ⟨wz, hwz⟩ : ∃ wz : World, wr.alloc (.cells x.cells.toArray 35) = wz := ⟨_, rfl⟩
   have hmwz : Mod (fun _ => False) wr wz := hwz ▸ (Mod.refl (fun _ => False) wr).alloc _
   have hgwz := heap_alloc_new wr (.cells x.cells.toArray 35)
   rw [hwz] at hgwz
   have hzwz : wz.heap.size = wr.heap.size + 1 := by rw [← hwz]; simp
   have hm0z := hm0r.trans hmwz (fun _ _ h => h)
   have hof := of_at x 1 tenant who wz
   have hlz : wr.heap.size < wz.heap.size := by omega
   have Hmr := Lib.hid hmr
   have Hall := Lib.hid hall
   have Hxj := Lib.hid hxj
   have Hxm := Lib.hid hxm
   have Hm0r := Lib.hid hm0r
   have Hf := Lib.hid hf
   have Hwz := Lib.hid hwz
   have Hmwz := Lib.hid hmwz
   have Hgwz := Lib.hid hgwz
   have Hm0z := Lib.hid hm0z
   have Hof := Lib.hid hof
   clear hmr hall hxj hxm hm0r hf hwz hmwz hgwz hm0z hof hzwz
   go_wp2_with (first | ((with_reducible refine wpList_load_lit 35 (.tmp 26) ?_); refine ⟨g, off + j * 8, rfl, x.cells, Hf.out, by kernel_rfl, by kernel_rfl, ?_⟩) | ((with_reducible refine wpList_store_lit 35 (.tmp 12) (.tmp 27) ?_); refine ⟨rfl, x.cells, rfl, rfl, by kernel_rfl, rfl, ?_⟩; rw [Hwz.out]) | ((with_reducible refine wpList_load_lit 35 (.tmp 12) ?_); refine ⟨wr.heap.size, 0, rfl, x.cells, CellsAt.row Hgwz.out, by kernel_rfl, by kernel_rfl, ?_⟩) | fail)
   refine Hof.out.mono ?_
   rintro e w3 ⟨rfl, hm3⟩
   have hm03 := Hm0z.out.trans hm3 (fun _ _ h => h)
   have hm13 := (Hmr.out.trans Hmwz.out (fun _ _ h => h)).trans hm3 (fun _ _ h => h)
   have hg3 := hm3.heap Hgwz.out (fun h => h)
   have he3 := hm13.heap Hg1.out (fun h => h)
   have b4 : w3.cell? ⟨wr.heap.size, 4, none⟩ = some (.string x.sc) := cell_of hg3 rfl
   have b5 : w3.cell? ⟨wr.heap.size, 5, none⟩ = some (.slice x.ca x.cs.length x.cc) := cell_of hg3 rfl
   have e0 : w3.cell? ⟨w.heap.size, 0, none⟩ = some (.string es) := cell_of he3 rfl
   have e1 : w3.cell? ⟨w.heap.size, 1, none⟩ = some (.slice ea en ec) := cell_of he3 rfl
   have hmt := Hm.out x Hxm.out w3 hm03
   have Hm03 := Lib.hid hm03
   have Hm13 := Lib.hid hm13
   have Hmt := Lib.hid hmt
   clear hm03 hm13 hmt hm3 hg3 he3
   cases hs : x.of 1 tenant who with
   | false =>
    have Hs := Lib.hid hs
    clear hs
    go_wp2_with fail
    go_roundw
    case rel =>
     refine ⟨j + 1, by go_num, hlt, Hm13.out, fun k x' hk hx' => ?_⟩
     rcases Nat.lt_succ_iff_lt_or_eq.1 hk with hk | rfl
     ·exact Hall.out k x' hk hx'
     ·rw [Hxj.out] at hx'; cases hx'; rw [Hs.out]; rfl
    case measure => simp [intOf]; omega
   | true =>
    have Hs := Lib.hid hs
    clear hs
    go_wp2_with fail
    refine Hmt.out.mono ?_
    rintro e w4 ⟨rfl, hm4⟩
    have hm04 := Hm03.out.trans hm4 (fun _ _ h => h)
    have hm14 := Hm13.out.trans hm4 (fun _ _ h => h)
    have Hm04 := Lib.hid hm04
    have Hm14 := Lib.hid hm14
    clear hm04 hm14 hm4 b4 b5 e0 e1
    cases ht : m x with
    | false =>
     have Ht := Lib.hid ht
     clear ht
     go_wp2_with fail
     go_roundw
     case rel =>
      refine ⟨j + 1, by go_num, hlt, Hm14.out, fun k x' hk hx' => ?_⟩
      rcases Nat.lt_succ_iff_lt_or_eq.1 hk with hk | rfl
      ·exact Hall.out k x' hk hx'
      ·rw [Hxj.out] at hx'; cases hx'; rw [Hs.out, Ht.out]; rfl
     case measure => simp [intOf]; omega
    | true =>
     have Ht := Lib.hid ht
     clear ht
     go_wp2
     go_ret
     refine ⟨?_, Hm04.out⟩
     rw [← HR2.out, List.any_eq_true.2 ⟨x, Hxm.out, by rw [Hs.out, Ht.out]; rfl⟩]
     rfl
  ·obtain rfl : j = l.length := by omega
   have hm0r := Hm01.out.trans hmr (fun _ _ h => h)
   have hf : R = false := by
    rw [← HR2.out, List.any_eq_false.2 fun x hx => by
     obtain ⟨k, hk⟩ := List.mem_iff_getElem?.1 hx
     rw [hall k x (List.getElem?_eq_some_iff.1 hk).1 hk]
     decide]
   have Hm0r := Lib.hid hm0r
   have Hf := Lib.hid hf
   clear hm0r hf hmr hall
   go_wp2
   go_ret
   refine ⟨?_, Hm0r.out⟩
   rw [Hf.out]
   rfl
end Go.Proofs.YtaenebdppkjhoaaGreatDoor
namespace Go.Proofs.YtaenebdppkjhoaaGreatDoor
set_option maxRecDepth 20000
open Go.RowKit
theorem datum_swap (a b : Ieee.Datum) : b.order a = (a.order b).map Ordering.swap := by
 cases a <;> cases b
 all_goals simp only [Ieee.Datum.order, Option.map_none, Option.map_some, Option.some.injEq]
 ·rename_i s m i t n j
  rw [Int.min_comm j i, ← Int.compare_swap]
 ·rename_i s m i t
  cases t <;> rfl
 ·rename_i s t n j
  cases s <;> rfl
 ·rename_i s t
  cases s <;> cases t <;> rfl
theorem order_swap (f : Ieee.Format) (x y : Nat) : f.order y x = (f.order x y).map Ordering.swap := datum_swap _ _
theorem gt_lt (x y : Nat) : (FloatKind.f64.format.order x y == some .gt) = fLt y x := by
 unfold fLt
 rw [order_swap _ x y]
 cases FloatKind.f64.format.order x y with
 | none => rfl
 | some o => cases o <;> rfl
def rungV (r : Nat) : Nat := (if r < 2 ^ 52 then r else 2 ^ 52 + r % 2 ^ 52) <<< (r / 2 ^ 52 - 1)
theorem rungV_lt {r s : Nat} (h : r < s) : rungV r < rungV s := by
 unfold rungV
 rw [Nat.shiftLeft_eq, Nat.shiftLeft_eq]
 have hr := Nat.div_add_mod r (2 ^ 52)
 have hs := Nat.div_add_mod s (2 ^ 52)
 have hrm := Nat.mod_lt r (show 0 < 2 ^ 52 by decide)
 have hsm := Nat.mod_lt s (show 0 < 2 ^ 52 by decide)
 have hde : r / 2 ^ 52 ≤ s / 2 ^ 52 := Nat.div_le_div_right (by omega)
 generalize r / 2 ^ 52 = e at *
 generalize s / 2 ^ 52 = d at *
 generalize r % 2 ^ 52 = p at *
 generalize s % 2 ^ 52 = q at *
 rcases Nat.lt_or_eq_of_le hde with hlt | rfl
 ·have h2 : ¬ s < 2 ^ 52 := by omega
  rw [if_neg h2]
  have hp : 2 ^ (e - 1) ≤ 2 ^ (d - 1) := Nat.pow_le_pow_right (by decide) (by omega)
  by_cases he : e = 0
  ·subst he
   have h1 : r < 2 ^ 52 := by omega
   rw [if_pos h1]
   have h3 : 1 ≤ 2 ^ (d - 1) := Nat.one_le_two_pow
   have h4 : r * 2 ^ (0 - 1) = r := by simp
   rw [h4]
   calc r < 2 ^ 52 := h1
    _ = 2 ^ 52 * 1 := by rw [Nat.mul_one]
    _ ≤ (2 ^ 52 + q) * 2 ^ (d - 1) := Nat.mul_le_mul (by omega) h3
  ·have h1 : ¬ r < 2 ^ 52 := by omega
   rw [if_neg h1]
   have h3 : 2 ^ (d - 1) = 2 ^ (d - 1 - e) * 2 ^ e := by rw [← Nat.pow_add]; congr 1; omega
   have h4 : 2 ^ e = 2 * 2 ^ (e - 1) := by
    conv => lhs; rw [show e = (e - 1) + 1 by omega, Nat.pow_succ]
    rw [Nat.mul_comm]
   have h5 : 1 ≤ 2 ^ (d - 1 - e) := Nat.one_le_two_pow
   have h6 : 1 ≤ 2 ^ (e - 1) := Nat.one_le_two_pow
   have h7 : 2 * 2 ^ (e - 1) ≤ 2 ^ (d - 1) := by
    rw [h3, h4]
    calc 2 * 2 ^ (e - 1) = 1 * (2 * 2 ^ (e - 1)) := by rw [Nat.one_mul]
     _ ≤ 2 ^ (d - 1 - e) * (2 * 2 ^ (e - 1)) := Nat.mul_le_mul_right _ h5
   calc (2 ^ 52 + p) * 2 ^ (e - 1) < (2 ^ 52 * 2) * 2 ^ (e - 1) := Nat.mul_lt_mul_of_pos_right (by omega) (by omega)
    _ = 2 ^ 52 * (2 * 2 ^ (e - 1)) := by rw [Nat.mul_assoc]
    _ ≤ 2 ^ 52 * 2 ^ (d - 1) := Nat.mul_le_mul_left _ h7
    _ ≤ (2 ^ 52 + q) * 2 ^ (d - 1) := Nat.mul_le_mul_right _ (by omega)
 ·have h6 : 0 < 2 ^ (e - 1) := Nat.two_pow_pos _
  refine Nat.mul_lt_mul_of_pos_right ?_ h6
  by_cases he : e = 0
  ·subst he
   rw [if_pos (by omega), if_pos (by omega)]
   exact h
  ·rw [if_neg (by omega), if_neg (by omega)]
   omega
theorem rungV_inj {r s : Nat} (h : rungV r = rungV s) : r = s := by
 rcases Nat.lt_trichotomy r s with h1 | h1 | h1
 ·have := rungV_lt h1; omega
 ·exact h1
 ·have := rungV_lt h1; omega
theorem rungV_zero {r : Nat} : rungV r = 0 ↔ r = 0 := ⟨fun h => rungV_inj (h.trans (by decide)), fun h => by subst h; decide⟩
def sgnB (x : Nat) : Bool := x / 2 ^ 63 % 2 == 1
def rungB (x : Nat) : Nat := x % 2 ^ 63
def isNum (x : Nat) : Prop := rungB x ≤ 9218868437227405312
theorem read_num {x : Nat} (h : rungB x < 9218868437227405312) :
 FloatKind.f64.format.read x = .number (sgnB x) (if rungB x < 2 ^ 52 then rungB x else 2 ^ 52 + rungB x % 2 ^ 52) (-1074 + (rungB x / 2 ^ 52 - 1 : Nat)) := by
 have e1 : FloatKind.f64.format.signWeight = 2 ^ 63 := by decide
 have e2 : FloatKind.f64.format.binade = 2 ^ 52 := by decide
 have e3 : FloatKind.f64.format.infRung = 9218868437227405312 := by decide
 have e4 : FloatKind.f64.format.leastPlace = -1074 := by decide
 unfold Ieee.Format.read
 rw [e1, e2, e3, e4]
 show (if rungB x < 2 ^ 52 then Ieee.Datum.number (sgnB x) (rungB x) (-1074) else if rungB x < 9218868437227405312 then Ieee.Datum.number (sgnB x) (2 ^ 52 + rungB x % 2 ^ 52) (-1074 + ((rungB x / 2 ^ 52 - 1 : Nat) : Int)) else if rungB x = 9218868437227405312 then Ieee.Datum.infinity (sgnB x) else .nan (sgnB x) (rungB x - 9218868437227405312)) = _
 by_cases h1 : rungB x < 2 ^ 52
 ·rw [if_pos h1, if_pos h1, Nat.div_eq_of_lt h1]
  rfl
 ·rw [if_neg h1, if_neg h1, if_pos h]
theorem read_inf {x : Nat} (h : rungB x = 9218868437227405312) : FloatKind.f64.format.read x = .infinity (sgnB x) := by
 have e1 : FloatKind.f64.format.signWeight = 2 ^ 63 := by decide
 have e2 : FloatKind.f64.format.binade = 2 ^ 52 := by decide
 have e3 : FloatKind.f64.format.infRung = 9218868437227405312 := by decide
 unfold Ieee.Format.read
 rw [e1, e2, e3]
 show (if rungB x < 2 ^ 52 then Ieee.Datum.number (sgnB x) (rungB x) _ else if rungB x < 9218868437227405312 then Ieee.Datum.number (sgnB x) (2 ^ 52 + rungB x % 2 ^ 52) _ else if rungB x = 9218868437227405312 then Ieee.Datum.infinity (sgnB x) else .nan (sgnB x) (rungB x - 9218868437227405312)) = _
 rw [if_neg (by omega), if_neg (by omega), if_pos h]
theorem read_nan {x : Nat} (h : 9218868437227405312 < rungB x) : ∃ n, FloatKind.f64.format.read x = .nan (sgnB x) n := by
 have e1 : FloatKind.f64.format.signWeight = 2 ^ 63 := by decide
 have e2 : FloatKind.f64.format.binade = 2 ^ 52 := by decide
 have e3 : FloatKind.f64.format.infRung = 9218868437227405312 := by decide
 unfold Ieee.Format.read
 rw [e1, e2, e3]
 refine ⟨rungB x - 9218868437227405312, ?_⟩
 show (if rungB x < 2 ^ 52 then Ieee.Datum.number (sgnB x) (rungB x) _ else if rungB x < 9218868437227405312 then Ieee.Datum.number (sgnB x) (2 ^ 52 + rungB x % 2 ^ 52) _ else if rungB x = 9218868437227405312 then Ieee.Datum.infinity (sgnB x) else .nan (sgnB x) (rungB x - 9218868437227405312)) = _
 rw [if_neg (by omega), if_neg (by omega), if_neg (by omega)]
theorem fEq_num {x : Nat} : fEq x x = true ↔ isNum x := by
 unfold isNum fEq Ieee.Format.order
 rcases Nat.lt_trichotomy (rungB x) 9218868437227405312 with h | h | h
 ·rw [read_num h]
  simp only [Ieee.Datum.order, beq_iff_eq, Option.some.injEq]
  constructor
  ·intro _; omega
  ·intro _; exact Int.compare_eq_eq.2 rfl
 ·rw [read_inf h]
  simp only [Ieee.Datum.order, beq_iff_eq, Option.some.injEq]
  constructor
  ·intro _; omega
  ·intro _; exact Nat.compare_eq_eq.2 rfl
 ·obtain ⟨n, hn⟩ := read_nan h
  rw [hn]
  simp only [Ieee.Datum.order]
  constructor
  ·intro h; cases h
  ·intro _; omega
theorem shl_min (m a b : Nat) (hb : b ≤ a) : m <<< a = (m <<< (a - b)) * 2 ^ b := by
 rw [Nat.shiftLeft_eq, Nat.shiftLeft_eq, Nat.mul_assoc, ← Nat.pow_add]
 congr 2
 omega
theorem signed_eq {s t : Bool} {m n i j : Nat} : Ieee.signed s m ((-1074 + (i : Int)) - min (-1074 + (i : Int)) (-1074 + (j : Int))).toNat = Ieee.signed t n ((-1074 + (j : Int)) - min (-1074 + (i : Int)) (-1074 + (j : Int))).toNat ↔ m <<< i = n <<< j ∧ (s = t ∨ m <<< i = 0) := by
 have hi : ((-1074 + (i : Int)) - min (-1074 + (i : Int)) (-1074 + (j : Int))).toNat = i - min i j := by omega
 have hj : ((-1074 + (j : Int)) - min (-1074 + (i : Int)) (-1074 + (j : Int))).toNat = j - min i j := by omega
 rw [hi, hj]
 have h1 := shl_min m i (min i j) (Nat.min_le_left _ _)
 have h2 := shl_min n j (min i j) (Nat.min_le_right _ _)
 have hp : 0 < 2 ^ min i j := Nat.two_pow_pos _
 rw [h1, h2]
 clear h1 h2 hi hj
 unfold Ieee.signed
 generalize m <<< (i - min i j) = A
 generalize n <<< (j - min i j) = B
 generalize 2 ^ min i j = P at hp
 have hAB : A * P = B * P ↔ A = B := ⟨fun h => Nat.eq_of_mul_eq_mul_right hp h, fun h => by rw [h]⟩
 have hA0 : A * P = 0 ↔ A = 0 := ⟨fun h => by
  rcases Nat.mul_eq_zero.1 h with h | h
  ·exact h
  ·omega, fun h => by rw [h, Nat.zero_mul]⟩
 rw [hAB, hA0]
 clear hAB hA0 hp
 cases s <;> cases t <;> simp <;> omega
theorem fEq_iff {x y : Nat} (hx : x < 2 ^ 64) (hy : y < 2 ^ 64) (hnx : isNum x) (hny : isNum y) : fEq x y = true ↔ x = y ∨ (rungB x = 0 ∧ rungB y = 0) := by
 have hxr : x = (if sgnB x then 2 ^ 63 else 0) + rungB x := by
  unfold sgnB rungB
  split
  ·rename_i h; rw [beq_iff_eq] at h; omega
  ·rename_i h; rw [beq_iff_eq] at h; omega
 have hyr : y = (if sgnB y then 2 ^ 63 else 0) + rungB y := by
  unfold sgnB rungB
  split
  ·rename_i h; rw [beq_iff_eq] at h; omega
  ·rename_i h; rw [beq_iff_eq] at h; omega
 have hxy : x = y ↔ sgnB x = sgnB y ∧ rungB x = rungB y := by
  constructor
  ·intro h; subst h; exact ⟨rfl, rfl⟩
  ·rintro ⟨h1, h2⟩
   rw [hxr, hyr, h1, h2]
 unfold isNum at hnx hny
 rw [hxy]
 unfold fEq Ieee.Format.order
 rcases Nat.lt_or_eq_of_le hnx with h1 | h1 <;> rcases Nat.lt_or_eq_of_le hny with h2 | h2
 ·rw [read_num h1, read_num h2]
  simp only [Ieee.Datum.order, beq_iff_eq, Option.some.injEq]
  rw [Int.compare_eq_eq, signed_eq]
  show rungV (rungB x) = rungV (rungB y) ∧ (sgnB x = sgnB y ∨ rungV (rungB x) = 0) ↔ _
  rw [rungV_zero]
  constructor
  ·rintro ⟨h3, h4 | h4⟩
   ·exact .inl ⟨h4, rungV_inj h3⟩
   ·exact .inr ⟨h4, by rw [← rungV_inj h3]; exact h4⟩
  ·rintro (⟨h3, h4⟩ | ⟨h3, h4⟩)
   ·exact ⟨by rw [h4], .inl h3⟩
   ·exact ⟨by rw [h3, h4], .inr h3⟩
 ·rw [read_num h1, read_inf h2]
  simp only [Ieee.Datum.order, beq_iff_eq, Option.some.injEq]
  constructor
  ·intro h; cases hs : sgnB y <;> rw [hs] at h <;> cases h
  ·rintro (⟨_, h⟩ | ⟨_, h⟩) <;> omega
 ·rw [read_inf h1, read_num h2]
  simp only [Ieee.Datum.order, beq_iff_eq, Option.some.injEq]
  constructor
  ·intro h; cases hs : sgnB x <;> rw [hs] at h <;> cases h
  ·rintro (⟨_, h⟩ | ⟨h, _⟩) <;> omega
 ·rw [read_inf h1, read_inf h2]
  simp only [Ieee.Datum.order, beq_iff_eq, Option.some.injEq]
  rw [Nat.compare_eq_eq]
  constructor
  ·intro h
   refine .inl ⟨?_, by omega⟩
   cases hs : sgnB x <;> cases ht : sgnB y <;> rw [hs, ht] at h <;> first | rfl | exact absurd h (by decide)
  ·rintro (⟨h, _⟩ | ⟨h, _⟩)
   ·rw [h]
   ·omega
theorem fEq_zero {x : Nat} (hx : x < 2 ^ 64) (hn : isNum x) : fEq x 0 = true ↔ rungB x = 0 := by
 rw [fEq_iff hx (by decide) hn (by unfold isNum rungB; decide)]
 have h0 : rungB 0 = 0 := by decide
 constructor
 ·rintro (h | h)
  ·rw [h]; exact h0
  ·exact h.1
 ·intro h; exact .inr ⟨h, h0⟩
theorem canon_num2 {x : Nat} (hx : x < 2 ^ 64) (hn : isNum x) : canonB x = if rungB x = 0 then 0 else x := by
 unfold canonB
 rw [if_pos (fEq_num.2 hn)]
 by_cases h : rungB x = 0
 ·rw [if_pos h, if_pos ((fEq_zero hx hn).2 h)]
 ·rw [if_neg h, if_neg (fun h' => h ((fEq_zero hx hn).1 h'))]
end Go.Proofs.YtaenebdppkjhoaaGreatDoor
namespace Go.Proofs.YtaenebdppkjhoaaGreatDoor
set_option maxRecDepth 20000
open Go.RowKit
theorem rvoid_at (v : V) (w : World) : Calls Tryz.prog 100 #[.agg v.cells.toArray] w fun e w' => e = .returned (.bool v.void) ∧ Mod (fun _ => False) w w' := by
 obtain ⟨kind, int, num, text, yes⟩ := v
 unfold V.void V.cells
 have h1 := float_neq 66 num num
 cases hk : kind == 1 with
 | true =>
  go_enter Tryz.func100, Tryz.ntmps100
  go_wp2
  go_ret
  exact ⟨rfl, (Mod.refl _ w).alloc _⟩
 | false =>
  go_enter Tryz.func100, Tryz.ntmps100
  go_wp2
  go_ret
  exact ⟨rfl, (Mod.refl _ w).alloc _⟩
theorem cmp_drop : ∀ (k : Nat) (a b : List UInt8), a.take k = b.take k → Lib.compareBytes a b = Lib.compareBytes (a.drop k) (b.drop k)
 | 0, _, _, _ => rfl
 | k + 1, [], [], _ => rfl
 | k + 1, [], b :: t, h => by simp at h
 | k + 1, a :: s, [], h => by simp at h
 | k + 1, a :: s, b :: t, h => by
  simp only [List.take_succ_cons, List.cons.injEq] at h
  obtain ⟨rfl, h⟩ := h
  have hlt : ¬ a < a := by
   show ¬ a.toNat < a.toNat
   omega
  rw [cmp_cons, if_neg hlt, if_neg hlt, cmp_drop k s t h, List.drop_succ_cons, List.drop_succ_cons]
theorem cmp_here {a b : List UInt8} {k : Nat} {x y : UInt8} (h : a.take k = b.take k) (hx : a[k]? = some x) (hy : b[k]? = some y) (hne : x ≠ y) : Lib.compareBytes a b = if x < y then -1 else 1 := by
 rw [cmp_drop k a b h]
 obtain ⟨h1, rfl⟩ := List.getElem?_eq_some_iff.1 hx
 obtain ⟨h2, rfl⟩ := List.getElem?_eq_some_iff.1 hy
 rw [List.drop_eq_getElem_cons h1, List.drop_eq_getElem_cons h2, cmp_cons]
 by_cases hl : a[k] < b[k]
 ·rw [if_pos hl, if_pos hl]
 ·rw [if_neg hl, if_neg hl, if_pos]
  have hn : ¬ a[k].toNat < b[k].toNat := hl
  have hd : a[k].toNat ≠ b[k].toNat := fun h => hne (UInt8.toNat.inj h)
  show b[k].toNat < a[k].toNat
  omega
theorem cmp_end {a b : List UInt8} {k : Nat} (h : a.take k = b.take k) (hk : a.length ≤ k ∨ b.length ≤ k) : Lib.compareBytes a b = if a.length < b.length then -1 else if b.length < a.length then 1 else 0 := by
 rw [cmp_drop k a b h]
 have hl := congrArg List.length h
 rw [List.length_take, List.length_take] at hl
 cases hA : a.drop k with
 | nil =>
  have hA' : a.length ≤ k := by simpa using hA
  cases hB : b.drop k with
  | nil =>
   have hB' : b.length ≤ k := by simpa using hB
   rw [if_neg (by omega), if_neg (by omega)]
   rfl
  | cons y t =>
   have hB' : ¬ b.length ≤ k := fun h => by rw [List.drop_eq_nil_of_le h] at hB; cases hB
   rw [if_pos (by omega)]
   rfl
 | cons x s =>
  have hA' : ¬ a.length ≤ k := fun h => by rw [List.drop_eq_nil_of_le h] at hA; cases hA
  have hB' : b.length ≤ k := by omega
  rw [List.drop_eq_nil_of_le hB', if_neg (by omega), if_pos (by omega)]
  rfl
set_option maxHeartbeats 2000000 in
theorem rtexts_at (a b : ByteArray) (ha : a.size ≤ 9223372036854775807) (hb : b.size ≤ 9223372036854775807) (w : World) :
 Calls Tryz.prog 134 #[.string a, .string b] w fun e w' => e = .returned (.int .i64 (Lib.compareBytes a.data.toList b.data.toList)) ∧ Mod (fun _ => False) w w' := by
 obtain ⟨R, hR⟩ : ∃ R, Lib.compareBytes a.data.toList b.data.toList = R := ⟨_, rfl⟩
 rw [hR]
 have ha' : (a.size : Int) ≤ 9223372036854775807 := by omega
 have hb' : (b.size : Int) ≤ 9223372036854775807 := by omega
 have HR := Lib.hid hR
 clear hR
 go_enter Tryz.func134, Tryz.ntmps134
 go_wp2_with fail
 go_loopw [5] (fun i wr => ∃ k : Nat, i = .int .i64 k ∧ k ≤ a.size ∧ k ≤ b.size ∧ a.data.toList.take k = b.data.toList.take k ∧ Mod (fun _ => False) w wr) (fun i _ => a.size - (intOf i).toNat)
 case atStart => exact ⟨0, rfl, Nat.zero_le _, Nat.zero_le _, rfl, Mod.refl _ _⟩
 case round =>
  obtain ⟨k, rfl, hka, hkb, htk, hmr⟩ := hrel
  have Htk := Lib.hid htk
  have Hmr := Lib.hid hmr
  clear htk hmr
  by_cases hla : k < a.size
  ·have hla' : (k : Int) < a.size := by omega
   by_cases hlb : k < b.size
   ·have hlb' : (k : Int) < b.size := by omega
    have hx : a.data.toList[k]? = some a[k] := List.getElem?_eq_getElem hla
    have hy : b.data.toList[k]? = some b[k] := List.getElem?_eq_getElem hlb
    by_cases he : a[k] = b[k]
    ·have he1 : ((a[k].toNat : Int) == (b[k].toNat : Int)) = true := by rw [he]; exact beq_self_eq_true _
     have he2 : (a[k].toNat == b[k].toNat) = true := by rw [he]; exact beq_self_eq_true _
     have htk2 : a.data.toList.take (k + 1) = b.data.toList.take (k + 1) := by rw [List.take_add_one, List.take_add_one, hx, hy, he, Htk.out]
     have Htk2 := Lib.hid htk2
     clear htk2 hx hy he
     go_wp2_with fail
     go_quiet (fail)
     go_wp2_with fail
     go_roundw
     case rel => exact ⟨k + 1, by go_num, hla, hlb, Htk2.out, Hmr.out.drewN _⟩
     case measure => simp [intOf]; omega
    ·have he1 : ((a[k].toNat : Int) == (b[k].toNat : Int)) = false := by
      rw [beq_eq_false_iff_ne]
      intro h
      exact he (UInt8.toNat.inj (by omega))
     have he2 : (a[k].toNat == b[k].toNat) = false := by
      rw [beq_eq_false_iff_ne]
      intro h
      exact he (UInt8.toNat.inj h)
     have hc := cmp_here Htk.out hx hy he
     by_cases hl : a[k] < b[k]
     ·have hc2 := HR.out.symm.trans (hc.trans (if_pos hl))
      have hl1 : (a[k].toNat : Int) < b[k].toNat := by have : a[k].toNat < b[k].toNat := hl; omega
      have Hc2 := Lib.hid hc2
      clear hc2 hc hx hy he hl
      go_wp2_with fail
      go_quiet (fail)
      go_wp2_with fail
      go_quiet (fail)
      go_wp2_with fail
      go_ret
      exact ⟨by rw [Hc2.out]; rfl, (Hmr.out.drewN _).drewN _⟩
     ·have hc2 := HR.out.symm.trans (hc.trans (if_neg hl))
      have hl1 : (b[k].toNat : Int) ≤ a[k].toNat := by have : ¬ a[k].toNat < b[k].toNat := hl; omega
      have Hc2 := Lib.hid hc2
      clear hc2 hc hx hy he hl
      go_wp2_with fail
      go_quiet (fail)
      go_wp2_with fail
      go_quiet (fail)
      go_wp2_with fail
      go_ret
      exact ⟨by rw [Hc2.out]; rfl, (Hmr.out.drewN _).drewN _⟩
   ·have hc := cmp_end Htk.out (.inr (by show b.size ≤ k; omega))
    have hlb' : (b.size : Int) ≤ k := by omega
    have hd1 : decide (a.size < b.size) = false := decide_eq_false (by omega)
    have hc2 : R = 1 := by rw [← HR.out, hc, if_neg (by show ¬ a.size < b.size; omega), if_pos (by show b.size < a.size; omega)]
    have hd3 : b.size < a.size := by omega
    have Hc2 := Lib.hid hc2
    clear hc2 hc
    go_wp2_with fail
    go_ret
    exact ⟨by rw [Hc2.out]; rfl, Hmr.out⟩
  ·have hc := cmp_end Htk.out (.inl (by show a.size ≤ k; omega))
   have hla' : (a.size : Int) ≤ k := by omega
   by_cases hl : a.size < b.size
   ·have hc2 : R = -1 := by rw [← HR.out, hc, if_pos (by show a.size < b.size; omega)]
    have Hc2 := Lib.hid hc2
    clear hc2 hc
    go_wp2_with fail
    go_ret
    exact ⟨by rw [Hc2.out]; rfl, Hmr.out⟩
   ·have hc2 : R = 0 := by rw [← HR.out, hc, if_neg (by show ¬ a.size < b.size; omega), if_neg (by show ¬ b.size < a.size; omega)]
    have hd1 : decide (a.size < b.size) = false := decide_eq_false (by omega)
    have hd2 : decide (b.size < a.size) = false := decide_eq_false (by omega)
    have Hc2 := Lib.hid hc2
    clear hc2 hc hl
    go_wp2_with fail
    go_ret
    exact ⟨by rw [Hc2.out]; rfl, Hmr.out⟩
theorem rbegins_at (s p : ByteArray) (hs : s.size ≤ 9223372036854775807) (hp : p.size ≤ 9223372036854775807) (w : World) : Calls Tryz.prog 103 #[.string s, .string p] w fun e w' => e = .returned (.bool (prefB s p)) ∧ w' = w := by
 have hs' : (s.size : Int) ≤ 9223372036854775807 := by omega
 have hp' : (p.size : Int) ≤ 9223372036854775807 := by omega
 by_cases h : p.size ≤ s.size
 ·have h' : (p.size : Int) ≤ s.size := by omega
  rw [← prefix_take]
  clear hs hp
  go_enter Tryz.func103, Tryz.ntmps103
  go_wp2
  go_ret
  exact ⟨rfl, rfl⟩
 ·have h' : (s.size : Int) < p.size := by omega
  rw [prefix_short (by omega)]
  clear hs hp h
  go_enter Tryz.func103, Tryz.ntmps103
  go_wp2
  go_ret
  exact ⟨rfl, rfl⟩
set_option maxHeartbeats 4000000 in
theorem rcompare_at (a b : V) (ha : a.text.size ≤ 9223372036854775807) (hb : b.text.size ≤ 9223372036854775807) (w : World) : Calls Tryz.prog 101 #[.agg a.cells.toArray, .agg b.cells.toArray] w fun e w' =>
 e = .returned (.tuple #[.int .i64 (cmpV a b).1, .bool (cmpV a b).2]) ∧ Mod (fun _ => False) w w' := by
 obtain ⟨wa, hwa⟩ : ∃ wa : World, w.alloc (.cells a.cells.toArray 68) = wa := ⟨_, rfl⟩
 have hmwa : Mod (fun _ => False) w wa := hwa ▸ (Mod.refl (fun _ => False) w).alloc _
 have hgwa := heap_alloc_new w (.cells a.cells.toArray 68)
 rw [hwa] at hgwa
 have hzwa : wa.heap.size = w.heap.size + 1 := by rw [← hwa]; simp
 obtain ⟨wb, hwb⟩ : ∃ wb : World, wa.alloc (.cells b.cells.toArray 68) = wb := ⟨_, rfl⟩
 have hmwb : Mod (fun _ => False) wa wb := hwb ▸ (Mod.refl (fun _ => False) wa).alloc _
 have hgwb := heap_alloc_new wa (.cells b.cells.toArray 68)
 rw [hwb] at hgwb
 have hzwb : wb.heap.size = wa.heap.size + 1 := by rw [← hwb]; simp
 have hmb := hmwa.trans hmwb (fun _ _ h => h)
 have hgA := hmwb.heap hgwa (fun h => h)
 have c0 : wb.cell? ⟨w.heap.size, 0, none⟩ = some (.int .i64 a.kind) := cell_of hgA rfl
 have c1 : wb.cell? ⟨w.heap.size, 1, none⟩ = some (.int .i64 a.int) := cell_of hgA rfl
 have c2 : wb.cell? ⟨w.heap.size, 2, none⟩ = some (.float .f64 a.num) := cell_of hgA rfl
 have c3 : wb.cell? ⟨w.heap.size, 3, none⟩ = some (.string a.text) := cell_of hgA rfl
 have c4 : wb.cell? ⟨w.heap.size, 4, none⟩ = some (.bool a.yes) := cell_of hgA rfl
 have d0 : wb.cell? ⟨wa.heap.size, 0, none⟩ = some (.int .i64 b.kind) := cell_of hgwb rfl
 have d1 : wb.cell? ⟨wa.heap.size, 1, none⟩ = some (.int .i64 b.int) := cell_of hgwb rfl
 have d2 : wb.cell? ⟨wa.heap.size, 2, none⟩ = some (.float .f64 b.num) := cell_of hgwb rfl
 have d3 : wb.cell? ⟨wa.heap.size, 3, none⟩ = some (.string b.text) := cell_of hgwb rfl
 have d4 : wb.cell? ⟨wa.heap.size, 4, none⟩ = some (.bool b.yes) := cell_of hgwb rfl
 have hlz : w.heap.size < wa.heap.size := by omega
 have hva := rvoid_at a wb
 have hvb := rvoid_at b
 have htx := rtexts_at a.text b.text ha hb
 have Hwa := Lib.hid hwa
 have Hwb := Lib.hid hwb
 have Hmb := Lib.hid hmb
 have Hva := Lib.hid hva
 have Hvb := Lib.hid hvb
 have HgA := Lib.hid hgA
 have Hgwb := Lib.hid hgwb
 have Htx := Lib.hid htx
 clear hwa hwb hmb hva hvb hgA hgwb htx hmwa hmwb hgwa hzwa hzwb ha hb
 cases hk : a.kind == b.kind with
 | false =>
  have E := Lib.hid (show cmpV a b = (0, false) by unfold cmpV V.alike; rw [hk]; rfl)
  have hkn : (a.kind != b.kind) = true := by simp [bne, hk]
  go_enter Tryz.func101, Tryz.ntmps101
  go_wp2_with (first | (rw [show w.alloc _ = wa from Hwa.out]) | (rw [show wa.alloc _ = wb from Hwb.out]) | fail)
  go_ret2
  exact ⟨by rw [E.out]; rfl, Hmb.out⟩
 | true =>
 have hkn : (a.kind != b.kind) = false := by simp [bne, hk]
 go_enter Tryz.func101, Tryz.ntmps101
 go_wp2_with (first | (rw [show w.alloc _ = wa from Hwa.out]) | (rw [show wa.alloc _ = wb from Hwb.out]) | fail)
 refine Hva.out.mono ?_
 rintro e w2 ⟨rfl, hm2⟩
 have hA2 := hm2.heap HgA.out (fun h => h)
 have hB2 := hm2.heap Hgwb.out (fun h => h)
 have hm02 := Hmb.out.trans hm2 (fun _ _ h => h)
 have Hk := Lib.hid hk
 have HA2 := Lib.hid hA2
 have HB2 := Lib.hid hB2
 have Hm02 := Lib.hid hm02
 clear hA2 hB2 hm02 hm2 c0 c1 c2 c3 c4 d0 d1 d2 d3 d4 hk hkn Hva HgA Hgwb Hmb
 have c0 : w2.cell? ⟨w.heap.size, 0, none⟩ = some (.int .i64 a.kind) := cell_of HA2.out rfl
 have c1 : w2.cell? ⟨w.heap.size, 1, none⟩ = some (.int .i64 a.int) := cell_of HA2.out rfl
 have c2 : w2.cell? ⟨w.heap.size, 2, none⟩ = some (.float .f64 a.num) := cell_of HA2.out rfl
 have c3 : w2.cell? ⟨w.heap.size, 3, none⟩ = some (.string a.text) := cell_of HA2.out rfl
 have c4 : w2.cell? ⟨w.heap.size, 4, none⟩ = some (.bool a.yes) := cell_of HA2.out rfl
 have d0 : w2.cell? ⟨wa.heap.size, 0, none⟩ = some (.int .i64 b.kind) := cell_of HB2.out rfl
 have d1 : w2.cell? ⟨wa.heap.size, 1, none⟩ = some (.int .i64 b.int) := cell_of HB2.out rfl
 have d2 : w2.cell? ⟨wa.heap.size, 2, none⟩ = some (.float .f64 b.num) := cell_of HB2.out rfl
 have d3 : w2.cell? ⟨wa.heap.size, 3, none⟩ = some (.string b.text) := cell_of HB2.out rfl
 have d4 : w2.cell? ⟨wa.heap.size, 4, none⟩ = some (.bool b.yes) := cell_of HB2.out rfl
 obtain ⟨va, hva⟩ : ∃ x, a.void = x := ⟨_, rfl⟩
 obtain ⟨vb, hvb⟩ : ∃ x, b.void = x := ⟨_, rfl⟩
 rw [hva]
 have Hvb2 := Lib.hid (Hvb.out w2)
 rw [hvb] at Hvb2
 have Hva := Lib.hid hva
 clear hva Hvb
 have Hvb := Lib.hid hvb
 clear hvb
 cases va with
 | true =>
  have E := Lib.hid (show cmpV a b = (0, false) by unfold cmpV V.alike; rw [Hk.out, Hva.out]; rfl)
  go_wp2
  go_ret2
  exact ⟨by rw [E.out]; rfl, Hm02.out⟩
 | false =>
 go_wp2_with fail
 refine Hvb2.out.mono ?_
 rintro e w3 ⟨rfl, hm3⟩
 have hA3 := hm3.heap HA2.out (fun h => h)
 have hB3 := hm3.heap HB2.out (fun h => h)
 have hm03 := Hm02.out.trans hm3 (fun _ _ h => h)
 have HA3 := Lib.hid hA3
 have HB3 := Lib.hid hB3
 have Hm03 := Lib.hid hm03
 clear hA3 hB3 hm03 hm3 c0 c1 c2 c3 c4 d0 d1 d2 d3 d4 Hvb2 HA2 HB2 Hm02
 have c0 : w3.cell? ⟨w.heap.size, 0, none⟩ = some (.int .i64 a.kind) := cell_of HA3.out rfl
 have c1 : w3.cell? ⟨w.heap.size, 1, none⟩ = some (.int .i64 a.int) := cell_of HA3.out rfl
 have c2 : w3.cell? ⟨w.heap.size, 2, none⟩ = some (.float .f64 a.num) := cell_of HA3.out rfl
 have c3 : w3.cell? ⟨w.heap.size, 3, none⟩ = some (.string a.text) := cell_of HA3.out rfl
 have c4 : w3.cell? ⟨w.heap.size, 4, none⟩ = some (.bool a.yes) := cell_of HA3.out rfl
 have d0 : w3.cell? ⟨wa.heap.size, 0, none⟩ = some (.int .i64 b.kind) := cell_of HB3.out rfl
 have d1 : w3.cell? ⟨wa.heap.size, 1, none⟩ = some (.int .i64 b.int) := cell_of HB3.out rfl
 have d2 : w3.cell? ⟨wa.heap.size, 2, none⟩ = some (.float .f64 b.num) := cell_of HB3.out rfl
 have d3 : w3.cell? ⟨wa.heap.size, 3, none⟩ = some (.string b.text) := cell_of HB3.out rfl
 have d4 : w3.cell? ⟨wa.heap.size, 4, none⟩ = some (.bool b.yes) := cell_of HB3.out rfl
 cases vb with
 | true =>
  have E := Lib.hid (show cmpV a b = (0, false) by unfold cmpV V.alike; rw [Hk.out, Hva.out, Hvb.out]; rfl)
  go_wp2
  go_ret2
  exact ⟨by rw [E.out]; rfl, Hm03.out⟩
 | false =>
 have E := Lib.hid (show cmpV a b = (V.cmp a b, true) by unfold cmpV V.alike; rw [Hk.out, Hva.out, Hvb.out]; rfl)
 have ec : V.cmp a b = _ := rfl
 conv at ec => rhs; unfold V.cmp
 have Ec := Lib.hid ec
 clear ec Hva Hvb Hk
 cases h0 : a.kind == 0 with
 | true =>
  have E2 := Lib.hid (Ec.out.trans (if_pos (beq_iff_eq.1 h0)))
  go_wp2
  all_goals (go_ret2; exact ⟨by rw [E.out, E2.out]; first | (simp [sgn, *]; done) | (rw [show sgn (decide (a.int < b.int)) (decide (b.int < a.int)) = 0 from by unfold sgn; rw [decide_eq_false (by omega), decide_eq_false (by omega)]; rfl]; rfl) | (rw [show sgn (decide (a.int < b.int)) (decide (b.int < a.int)) = 1 from by unfold sgn; rw [decide_eq_false (by omega), decide_eq_true (by omega)]; rfl]; rfl), Hm03.out⟩)
 | false =>
 have h0' : ¬ a.kind = 0 := by simpa using h0
 have E0 := Lib.hid (Ec.out.trans (if_neg h0'))
 clear h0' Ec
 cases h1 : a.kind == 1 with
 | true =>
  have E2 := Lib.hid (E0.out.trans (if_pos (beq_iff_eq.1 h1)))
  obtain ⟨l1, hl1⟩ : ∃ x, fLt a.num b.num = x := ⟨_, rfl⟩
  obtain ⟨l2, hl2⟩ : ∃ x, fLt b.num a.num = x := ⟨_, rfl⟩
  have h3 : (FloatKind.f64.format.order a.num b.num == some Ordering.lt) = l1 := hl1
  have h4 : (FloatKind.f64.format.order a.num b.num == some Ordering.gt) = l2 := (gt_lt _ _).trans hl2
  rw [hl1] at E2
  rw [hl2] at E2
  clear hl1 hl2
  cases l1 <;> cases l2
  all_goals
   go_wp2
   go_ret2
   exact ⟨by rw [E.out, E2.out]; rfl, Hm03.out⟩
 | false =>
 have h1' : ¬ a.kind = 1 := by simpa using h1
 have E1 := Lib.hid (E0.out.trans (if_neg h1'))
 clear h1' E0
 cases h2 : a.kind == 2 with
 | true =>
  have E2 := Lib.hid (E1.out.trans (if_pos (beq_iff_eq.1 h2)))
  go_wp2_with fail
  refine (Htx.out w3).mono ?_
  rintro e w4 ⟨rfl, hm4⟩
  have Hm4 := Lib.hid (Hm03.out.trans hm4 (fun _ _ h => h))
  clear hm4
  go_wp2
  go_ret2
  exact ⟨by rw [E.out, E2.out]; rfl, Hm4.out⟩
 | false =>
  have h2' : ¬ a.kind = 2 := by simpa using h2
  have E2 := Lib.hid (E1.out.trans (if_neg h2'))
  clear h2' E1
  obtain ⟨ya, hya⟩ : ∃ x, a.yes = x := ⟨_, rfl⟩
  obtain ⟨yb, hyb⟩ : ∃ x, b.yes = x := ⟨_, rfl⟩
  rw [hya] at E2 c4
  rw [hyb] at E2 d4
  clear hya hyb
  cases ya <;> cases yb
  all_goals
   go_wp2
   go_ret2
   exact ⟨by rw [E.out, E2.out]; rfl, Hm03.out⟩
set_option maxHeartbeats 8000000 in
theorem rholds_at (c : Cnd) (v : V) (hc : c.v.text.size ≤ 9223372036854775807) (hv : v.text.size ≤ 9223372036854775807) (w : World) :
 Calls Tryz.prog 77 #[.agg c.cells.toArray, .agg v.cells.toArray] w fun e w' => e = .returned (.bool (c.holds v)) ∧ Mod (fun _ => False) w w' := by
 obtain ⟨wa, hwa⟩ : ∃ wa : World, w.alloc (.cells c.cells.toArray 132) = wa := ⟨_, rfl⟩
 have hmwa : Mod (fun _ => False) w wa := hwa ▸ (Mod.refl (fun _ => False) w).alloc _
 have hgwa := heap_alloc_new w (.cells c.cells.toArray 132)
 rw [hwa] at hgwa
 have hzwa : wa.heap.size = w.heap.size + 1 := by rw [← hwa]; simp
 obtain ⟨wb, hwb⟩ : ∃ wb : World, wa.alloc (.cells v.cells.toArray 68) = wb := ⟨_, rfl⟩
 have hmwb : Mod (fun _ => False) wa wb := hwb ▸ (Mod.refl (fun _ => False) wa).alloc _
 have hgwb := heap_alloc_new wa (.cells v.cells.toArray 68)
 rw [hwb] at hgwb
 have hzwb : wb.heap.size = wa.heap.size + 1 := by rw [← hwb]; simp
 have hmb := hmwa.trans hmwb (fun _ _ h => h)
 have hgA := hmwb.heap hgwa (fun h => h)
 have hcm := rcompare_at v c.v hv hc wb
 obtain ⟨R, hR⟩ : ∃ R, c.holds v = R := ⟨_, rfl⟩
 rw [hR]
 unfold Cnd.holds at hR
 obtain ⟨⟨n, ok⟩, hn⟩ : ∃ p, cmpV v c.v = p := ⟨_, rfl⟩
 rw [hn] at hcm hR
 simp only at hcm hR
 have hpf := fun wx => rbegins_at v.text c.v.text hv hc wx
 have hlz : w.heap.size < wa.heap.size := by omega
 have c0 : wb.cell? ⟨w.heap.size, 0, none⟩ = some (.string c.name) := cell_of hgA rfl
 have c1 : wb.cell? ⟨w.heap.size, 1, none⟩ = some (.int .i64 c.op) := cell_of hgA rfl
 have c2 : wb.cell? ⟨w.heap.size, 2, none⟩ = some (.int .i64 c.v.kind) := cell_of hgA rfl
 have c3 : wb.cell? ⟨w.heap.size, 3, none⟩ = some (.int .i64 c.v.int) := cell_of hgA rfl
 have c4 : wb.cell? ⟨w.heap.size, 4, none⟩ = some (.float .f64 c.v.num) := cell_of hgA rfl
 have c5 : wb.cell? ⟨w.heap.size, 5, none⟩ = some (.string c.v.text) := cell_of hgA rfl
 have c6 : wb.cell? ⟨w.heap.size, 6, none⟩ = some (.bool c.v.yes) := cell_of hgA rfl
 have d0 : wb.cell? ⟨wa.heap.size, 0, none⟩ = some (.int .i64 v.kind) := cell_of hgwb rfl
 have d1 : wb.cell? ⟨wa.heap.size, 1, none⟩ = some (.int .i64 v.int) := cell_of hgwb rfl
 have d2 : wb.cell? ⟨wa.heap.size, 2, none⟩ = some (.float .f64 v.num) := cell_of hgwb rfl
 have d3 : wb.cell? ⟨wa.heap.size, 3, none⟩ = some (.string v.text) := cell_of hgwb rfl
 have d4 : wb.cell? ⟨wa.heap.size, 4, none⟩ = some (.bool v.yes) := cell_of hgwb rfl
 have Hwa := Lib.hid hwa
 have Hwb := Lib.hid hwb
 have Hmb := Lib.hid hmb
 have HgA := Lib.hid hgA
 have Hgwb := Lib.hid hgwb
 have Hcm := Lib.hid hcm
 have HR := Lib.hid hR
 have Hn := Lib.hid hn
 have Hpf := Lib.hid hpf
 clear hwa hwb hmb hgA hgwb hcm hR hn hpf hmwa hmwb hgwa hzwa hzwb hc hv
 cases h7 : c.op == 7 with
 | true =>
  go_enter Tryz.func77, Tryz.ntmps77
  go_wp2_with (first | (rw [show w.alloc _ = wa from Hwa.out]) | (rw [show wa.alloc _ = wb from Hwb.out]) | fail)
  go_ret
  exact ⟨ret_bool (HR.out.symm.trans (by simp_all)), Hmb.out⟩
 | false =>
 go_enter Tryz.func77, Tryz.ntmps77
 go_wp2_with (first | (rw [show w.alloc _ = wa from Hwa.out]) | (rw [show wa.alloc _ = wb from Hwb.out]) | fail)
 refine Hcm.out.mono ?_
 rintro e w2 ⟨rfl, hm2⟩
 have hA2 := hm2.heap HgA.out (fun h => h)
 have hB2 := hm2.heap Hgwb.out (fun h => h)
 have hm02 := Hmb.out.trans hm2 (fun _ _ h => h)
 have hpf2 := Hpf.out w2
 have Hm02 := Lib.hid hm02
 have Hpf2 := Lib.hid hpf2
 clear hm02 hpf2 hm2 Hcm HgA Hgwb Hpf Hwa Hwb Hmb c0 c1 c2 c3 c4 c5 c6 d0 d1 d2 d3 d4
 have c0 : w2.cell? ⟨w.heap.size, 0, none⟩ = some (.string c.name) := cell_of hA2 rfl
 have c1 : w2.cell? ⟨w.heap.size, 1, none⟩ = some (.int .i64 c.op) := cell_of hA2 rfl
 have c2 : w2.cell? ⟨w.heap.size, 2, none⟩ = some (.int .i64 c.v.kind) := cell_of hA2 rfl
 have c3 : w2.cell? ⟨w.heap.size, 3, none⟩ = some (.int .i64 c.v.int) := cell_of hA2 rfl
 have c4 : w2.cell? ⟨w.heap.size, 4, none⟩ = some (.float .f64 c.v.num) := cell_of hA2 rfl
 have c5 : w2.cell? ⟨w.heap.size, 5, none⟩ = some (.string c.v.text) := cell_of hA2 rfl
 have c6 : w2.cell? ⟨w.heap.size, 6, none⟩ = some (.bool c.v.yes) := cell_of hA2 rfl
 have d0 : w2.cell? ⟨wa.heap.size, 0, none⟩ = some (.int .i64 v.kind) := cell_of hB2 rfl
 have d1 : w2.cell? ⟨wa.heap.size, 1, none⟩ = some (.int .i64 v.int) := cell_of hB2 rfl
 have d2 : w2.cell? ⟨wa.heap.size, 2, none⟩ = some (.float .f64 v.num) := cell_of hB2 rfl
 have d3 : w2.cell? ⟨wa.heap.size, 3, none⟩ = some (.string v.text) := cell_of hB2 rfl
 have d4 : w2.cell? ⟨wa.heap.size, 4, none⟩ = some (.bool v.yes) := cell_of hB2 rfl
 clear hA2 hB2
 cases ok with
 | false =>
  go_wp2
  all_goals (go_ret; refine ⟨ret_bool (HR.out.symm.trans (by (try simp only [beq_eq_false_iff_ne, ne_eq] at *); simp [*])), Hm02.out⟩)
 | true =>
  cases hvk : v.kind == 2 with
  | false =>
   go_wp2
   all_goals (go_ret; refine ⟨ret_bool (HR.out.symm.trans (by (try simp only [beq_iff_eq, beq_eq_false_iff_ne, ne_eq] at *); simp [*])), Hm02.out⟩)
  | true =>
   go_wp2_with (refine Hpf2.out.mono ?_; rintro e w3 ⟨rfl, rfl⟩)
   all_goals (go_ret; refine ⟨ret_bool (HR.out.symm.trans (by (try simp only [beq_iff_eq, beq_eq_false_iff_ne, ne_eq] at *); simp [*])), Hm02.out⟩)
end Go.Proofs.YtaenebdppkjhoaaGreatDoor
