/-
  Structs in whole rows: a store into a row, a result that lies in a variable.
-/
import Derived.Test.YtpfnemkfbelpcaaProg
import Derived.Test.YtpfnemkfbelpcaaMem
import Derived.WalkKit
import Derived.Laws.Tables
namespace Go.Proofs.Ytpfnemkfbelpcaa
set_option maxRecDepth 20000
open Go.RowKit

theorem heap_alloc2 (w : World) (A B : Obj) : ((w.alloc A).alloc B).heap[w.heap.size + 1]? = some B := by
  have h := heap_alloc_new (w.alloc A) B
  have e : (w.alloc A).heap.size = w.heap.size + 1 := by simp
  rwa [e] at h

/-- The kit's walk has such a rule for each kind of cell but floats. -/
@[go_sem] theorem run_store_float {P : Program} {w : World} {a : Addr} {m : Mode} (k : FloatKind) (b : Nat) : (store a (.float k b) m).run P w = stored P w a (.float k b) m := run_store P w a _ m rfl

section
variable {P : Program} {w : World}
theorem wp_store_row {o : Oper} {a : Act} {K : Act → World → Prop} {Q : Exit → Act → World → Prop} (ty : TypeId) (x y : Operand) (ho : o.op = .store ty x y) (g : Nat)
    (hx : a.eval x = .pointer (some ⟨g, 0, none⟩)) (cur : Array Value) (t : TypeId) (hg : w.heap[g]? = some (.cells cur t (0, 0))) (cs : List Value) (hy : a.eval y = .agg cs.toArray) (hl : cs.length = cur.size)
    (hi : (P.info? ty).map (·.size) = some cs.length) (h1 : ∀ u ∈ cs, u.oneCell' = true)
    (h : K (a.put o.dst undef) (w.setRow g cs.toArray)) : o.wp P a w K Q := by
  have hr := run_storeVar_row (P := P) (w := w) ty g cur t cs hg hl hi h1
  unfold Oper.wp execOp
  simp only [ho, hx, hy, Instr.storeAt, Instr.sureAddr, Sem.run_bind, Sem.run_pure, Result.andThen_ok, hr]
  exact h

/-- A struct is written into a block, whole: the world behind it is a variable, and what it is is told. -/
theorem wpList_store_row {ops : Array Oper} {rest : List Oper} {o : Oper} {a : Act} {Q : Exit → Act → World → Prop} (hgd : o.guard = none) (ty : TypeId) (x y : Operand) (ho : o.op = .store ty x y) (g : Nat)
    (hx : a.eval x = .pointer (some ⟨g, 0, none⟩)) (cur : Array Value) (t : TypeId) (hg : w.heap[g]? = some (.cells cur t (0, 0))) (cs : List Value) (hy : a.eval y = .agg cs.toArray) (n : Nat) (hl : cs.length = n) (hl' : cur.size = n)
    (hi : (P.info? ty).map (·.size) = some n) (h1 : cs.all (·.oneCell') = true)
    (h : ∀ w', w'.heap[g]? = some (.cells cs.toArray t (0, 0)) → Mod (fun k => k = g) w w' → wpList P ops Q rest (a.put o.dst undef) w') : wpList P ops Q (o :: rest) a w := by
  refine wpList_plain hgd fun _ hK => wp_store_row ty x y ho g hx cur t hg cs hy (hl.trans hl'.symm) (by rw [hi, hl]) (fun u hu => List.all_eq_true.1 h1 u hu) (hK _ _ (h _ (setRow_heap w g cur cs.toArray t (0, 0) hg) ?_))
  exact (Mod.refl (fun k => k = g) w).setRow (fun _ => rfl) _

/-- A result that lies in a variable. -/
theorem results_cell1 {fn : Func} {p : Tmp} {ty : TypeId} (h : fn.results = #[.cell p ty]) (tmps : Array Value) : (results fn tmps).run P w = ((asAddr (tmps.getD p undef)).run P w).andThen fun a w₁ => (loadVar ty a).run P w₁ := by
  simp only [results, h]
  simp [Sem.run_bind, Result.andThen]

theorem bodyPost_cell {fn : Func} {R : Ending → World → Prop} {a : Act} {p : Tmp} {ty : TypeId} (h : fn.results = #[.cell p ty]) (g : Nat) (hp : a.tmps.getD p undef = .pointer (some ⟨g, 0, none⟩)) (cs : List Value) (hc : CellsAt w g 0 cs)
    (hu : (match P.underlying ty with | some (.struct _) => true | some (.array _ _) => true | _ => false) = true) (hi : (P.info? ty).map (·.size) = some cs.length) (hd : a.defers = []) (hR : R (.returned (.agg cs.toArray)) w) : bodyPost P fn R .ret a w := by
  refine bodyPost_ret (v := .agg cs.toArray) ?_ hd hR
  rw [results_cell1 h, hp]
  simp only [asAddr, Sem.run_pure, Result.andThen_ok]
  exact run_loadVar_cells ty g 0 cs hc hu hi
end
end Go.Proofs.Ytpfnemkfbelpcaa
