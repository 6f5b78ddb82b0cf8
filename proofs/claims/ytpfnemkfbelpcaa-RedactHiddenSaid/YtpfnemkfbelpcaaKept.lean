/-
  Package event: kept.
-/
import Derived.Test.YtpfnemkfbelpcaaValue
import Derived.Laws.StructEq
namespace Go.Proofs.Ytpfnemkfbelpcaa
set_option maxRecDepth 20000
open Go.RowKit

/-- '==' of values, field by field. -/
def V.eqG (a b : V) : Bool := a.kind == b.kind && (a.int == b.int && (fEq a.num b.num && (a.text.toList == b.text.toList && a.yes == b.yes)))

theorem equalIn_float {P : Program} (w : World) (d : Nat) (t : TypeId) (a b : Nat) (h : P.underlying t = some (.float .f64)) : (Op.equalIn (d + 1) t (.float .f64 a) (.float .f64 b)).run P w = .ok (fEq a b) w := by
  simp [Op.equalIn, run_underlying h, Op.floatEq, fEq]

theorem eql_value (a b : V) (w : World) : (binOp .eql 46 (.agg a.cells.toArray) (.agg b.cells.toArray)).run Try.prog w = .ok (.bool (V.eqG a b)) w := by
  have hf : (Try.prog.fieldsOf 46).toList.map (fun f => (f.name == "_", f.type, f.offset)) = [(false, 3, 0), (false, 2, 1), (false, 44, 2), (false, 9, 3), (false, 4, 4)] := by kernel_rfl
  rw [run_eql_struct, run_equalIn_agg w 9999 _ _ _ (by kernel_rfl) (by kernel_rfl)]
  have h49 := fun w d a b => equalIn_float (P := Try.prog) w d 44 a b Try.underlying44
  obtain ⟨k1, i1, n1, t1, y1⟩ := a
  obtain ⟨k2, i2, n2, t2, y2⟩ := b
  unfold V.eqG V.cells
  simp [go_sem, Program.fieldsOf, Op.eqFields, h49]
  by_cases h1 : k1 = k2 <;> by_cases h2 : i1 = i2 <;> cases h3 : fEq n1 n2 <;> by_cases h4 : t1.toList = t2.toList <;> by_cases h5 : y1 = y2 <;> simp [h1, h2, h4, h5]

def V.kept (v : V) : Bool := if v.void then V.eqG { v.canon with num := 0 } { v with num := 0 } else V.eqG v.canon v

set_option maxHeartbeats 400000 in
set_option maxRecDepth 20000 in
theorem kept_at (v : V) (w : World) : Calls Try.prog 47 #[.agg v.cells.toArray] w fun e w' => e = .returned (.bool v.kept) ∧ Mod (fun _ => False) w w' := by
  have heq := fun a b => eql_value a b
  have hg1 : (w.alloc (.cells v.cells.toArray 46)).heap[w.heap.size]? = some (.cells v.cells.toArray 46 (0, 0)) := heap_alloc_new w _
  have Hc := Lib.hid fun w => value_canon v w
  have Hv := Lib.hid fun w => value_void v w
  have Hg1 := Lib.hid hg1
  have Heq := Lib.hid heq
  have hgd : Try.prog.eqGuardType Try.prog.depth 46 = false := by kernel_rfl
  clear hg1 heq
  obtain ⟨R, hR⟩ : ∃ R, v.kept = R := ⟨_, rfl⟩
  rw [hR]
  have HR := Lib.hid hR
  clear hR
  go_enter Try.func47, Try.ntmps47
  go_wp2_with (first | (refine wpList_load_cells rfl 46 (.tmp 1) rfl w.heap.size 0 rfl v.cells (CellsAt.row Hg1.out) (by kernel_rfl) (by kernel_rfl) ?_) | fail)
  refine (Hc.out _).mono ?_
  rintro e w1 ⟨rfl, hm1⟩
  have hg11 := hm1.heap Hg1.out (by simp)
  have hl1 : w.heap.size < w1.heap.size := (Array.getElem?_eq_some_iff.1 hg11).1
  have hm01 : Mod (fun _ => False) w w1 := ((Mod.refl (fun _ => False) w).alloc _).trans hm1 (fun _ _ h => h)
  have Hm01 := Lib.hid hm01
  have hg12 := heap_old (o := .cells v.canon.cells.toArray 46) hg11
  have hg3 := heap_alloc_new w1 (.cells v.canon.cells.toArray 46)
  have Hg12 := Lib.hid hg12
  have Hg3 := Lib.hid hg3
  clear hm1 hg11 hm01 hg12 hg3 Hc
  go_wp2_with (first | (refine wpList_store_new rfl 46 (.tmp 3) (.tmp 5) rfl rfl _ 46 v.canon.cells rfl rfl (by kernel_rfl) (fun u hu => List.all_eq_true.1 (show v.canon.cells.all (·.oneCell') = true from rfl) u hu) ?_) | (refine wpList_load_cells rfl 46 (.tmp 1) rfl w.heap.size 0 rfl v.cells (CellsAt.row Hg12.out) (by kernel_rfl) (by kernel_rfl) ?_) | fail)
  refine (Hv.out _).mono ?_
  rintro e w2 ⟨rfl, hm2⟩
  have hg13 := hm2.heap Hg12.out (by simp)
  have hg33 := hm2.heap Hg3.out (by simp)
  have hm02 : Mod (fun _ => False) w w2 := (Hm01.out.alloc _).trans hm2 (fun _ _ h => h)
  have Hm02 := Lib.hid hm02
  cases hvo : v.void with
  | false =>
    have Hvo := Lib.hid hvo
    have Hg13 := Lib.hid hg13
    have Hg33 := Lib.hid hg33
    have he := Heq.out v.canon v
    clear hm2 hg13 hg33 hm02 hvo Hv
    go_wp2_with (first | (refine wpList_load_cells rfl 46 (.tmp 3) rfl w1.heap.size 0 rfl v.canon.cells (CellsAt.row Hg33.out) (by kernel_rfl) (by kernel_rfl) ?_) | (refine wpList_load_cells rfl 46 (.tmp 1) rfl w.heap.size 0 rfl v.cells (CellsAt.row Hg13.out) (by kernel_rfl) (by kernel_rfl) ?_) | fail)
    go_ret
    have h := HR.out
    unfold V.kept at h
    rw [Hvo.out, if_neg (by decide)] at h
    subst h
    exact ⟨rfl, Hm02.out⟩
  | true =>
    have c3 : w2.cell? ⟨w1.heap.size, 2, none⟩ = some (.float .f64 v.canon.num) := cell_of hg33 rfl
    have f3 : w2.frozen? ⟨w1.heap.size, 2, none⟩ = false := fr_of hg33
    have c1 : w2.cell? ⟨w.heap.size, 2, none⟩ = some (.float .f64 v.num) := cell_of hg13 rfl
    have f1 : w2.frozen? ⟨w.heap.size, 2, none⟩ = false := fr_of hg13
    have hne : w.heap.size ≠ w1.heap.size := by omega
    have hne' : w1.heap.size ≠ w.heap.size := by omega
    have mA : Mod (fun k => k = w1.heap.size) w2 (w2.setCell ⟨w1.heap.size, 2, none⟩ (.float .f64 0)) := (Mod.refl (fun k => k = w1.heap.size) w2).setCell (fun _ => rfl) _
    have mB : Mod (fun k => k = w.heap.size) (w2.setCell ⟨w1.heap.size, 2, none⟩ (.float .f64 0)) ((w2.setCell ⟨w1.heap.size, 2, none⟩ (.float .f64 0)).setCell ⟨w.heap.size, 2, none⟩ (.float .f64 0)) := (Mod.refl (fun k => k = w.heap.size) (w2.setCell ⟨w1.heap.size, 2, none⟩ (.float .f64 0))).setCell (fun _ => rfl) _
    have hA3 : ((w2.setCell ⟨w1.heap.size, 2, none⟩ (.float .f64 0)).setCell ⟨w.heap.size, 2, none⟩ (.float .f64 0)).heap[w1.heap.size]? = some (.cells (V.cells { v.canon with num := 0 }).toArray 46 (0, 0)) := mB.heap (heap_set hg33) (by omega)
    have hA1 : ((w2.setCell ⟨w1.heap.size, 2, none⟩ (.float .f64 0)).setCell ⟨w.heap.size, 2, none⟩ (.float .f64 0)).heap[w.heap.size]? = some (.cells (V.cells { v with num := 0 }).toArray 46 (0, 0)) := heap_set (mA.heap hg13 (by omega))
    have hm3 : Mod (fun _ => False) w ((w2.setCell ⟨w1.heap.size, 2, none⟩ (.float .f64 0)).setCell ⟨w.heap.size, 2, none⟩ (.float .f64 0)) := (hm02.trans (mA.mono (fun k hk h => h)) (fun b hb h => by omega)).trans mB (fun b hb h => by omega)
    have Hvo := Lib.hid hvo
    have HA3 := Lib.hid hA3
    have HA1 := Lib.hid hA1
    have Hm3 := Lib.hid hm3
    have he := Heq.out { v.canon with num := 0 } { v with num := 0 }
    clear hm2 hg13 hg33 hm02 hvo Hv mA mB hA3 hA1 hm3
    go_wp2_with (first | (refine wpList_load_cells rfl 46 (.tmp 3) rfl w1.heap.size 0 rfl (V.cells { v.canon with num := 0 }) (CellsAt.row HA3.out) (by kernel_rfl) (by kernel_rfl) ?_) | (refine wpList_load_cells rfl 46 (.tmp 1) rfl w.heap.size 0 rfl (V.cells { v with num := 0 }) (CellsAt.row HA1.out) (by kernel_rfl) (by kernel_rfl) ?_) | fail)
    go_ret
    have h := HR.out
    unfold V.kept at h
    rw [Hvo.out, if_pos rfl] at h
    subst h
    exact ⟨rfl, Hm3.out⟩
end Go.Proofs.Ytpfnemkfbelpcaa
