/-
  Laws for single operations that name the operation as it stands: an operation of another kind is refused at once.
-/
import Derived.Test.YtpfnemkfbelpcaaCells
namespace Go.Proofs.Ytpfnemkfbelpcaa
set_option maxRecDepth 20000
open Go.RowKit

section
variable {P : Program} {w : World} {ops : Array Oper} {rest : List Oper} {a : Act} {Q : Exit → Act → World → Prop} {d : Option Tmp} {tp : TypeId} {pos : String} {af : Array Edge}

theorem all_one {cs : List Value} (h : cs.all (·.oneCell') = true) : ∀ u ∈ cs, u.oneCell' = true := fun u hu => List.all_eq_true.1 h u hu

/-- A struct is written into a block that has just been made. -/
theorem wpList_store_lit {cur : Array Value} {t : TypeId} (ty : TypeId) (x y : Operand)
    (h : a.eval x = .pointer (some ⟨w.heap.size, 0, none⟩) ∧ ∃ cs : List Value, a.eval y = .agg cs.toArray ∧ cs.length = cur.size ∧ (P.info? ty).map (·.size) = some cs.length ∧ cs.all (·.oneCell') = true ∧
      wpList P ops Q rest (a.put d undef) (w.alloc (.cells cs.toArray t))) : wpList P ops Q (⟨d, .store ty x y, tp, pos, af, none⟩ :: rest) a (w.alloc (.cells cur t)) := by
  obtain ⟨hx, cs, hy, hl, hi, h1, h⟩ := h
  exact wpList_store_new rfl ty x y rfl hx cur t cs hy hl hi (all_one h1) h

/-- A struct is read. -/
theorem wpList_load_lit (ty : TypeId) (x : Operand)
    (h : ∃ g off, a.eval x = .pointer (some ⟨g, off, none⟩) ∧ ∃ cs : List Value, CellsAt w g off cs ∧ (match P.underlying ty with | some (.struct _) => true | some (.array _ _) => true | _ => false) = true ∧ (P.info? ty).map (·.size) = some cs.length ∧
      wpList P ops Q rest (a.put d (.agg cs.toArray)) w) : wpList P ops Q (⟨d, .load ty x, tp, pos, af, none⟩ :: rest) a w := by
  obtain ⟨g, off, hx, cs, hc, hu, hi, h⟩ := h
  exact wpList_load_cells rfl ty x rfl g off hx cs hc hu hi h

/-- append of a slice that is read to one that is owned. -/
theorem wpList_append_lit {at1 : Array TypeId} (s y : Operand) (t : TypeId)
    (h : at1 = #[t, t] ∧ ∃ (e : TypeId) (sz bytes : Nat), SliceT P t e sz bytes ∧ ∃ (v : Value) (n : Nat) (xs : List Value), a.eval s = v ∧ OwnSl w e sz v n xs ∧ ∃ (x : Value) (m : Nat) (news : List Value), a.eval y = x ∧ RdSl w sz x m news ∧ (∀ u ∈ news, u.oneCell' = true) ∧
      (n + m) * bytes ≤ 140737488355328 ∧ n + m ≤ maxLen ∧ ∀ ad cap w', Appended w e sz v (n + m) (xs ++ news) (.slice ad (n + m) cap) w' → wpList P ops Q rest (a.put d (.slice ad (n + m) cap)) w') :
    wpList P ops Q (⟨d, .call { callee := .builtin .append, args := #[s, y], argTypes := at1 }, tp, pos, af, none⟩ :: rest) a w := by
  obtain ⟨rfl, e, sz, bytes, hT, v, n, xs, hs, hown, x, m, news, hy, hx, h1, hb, hm, hK⟩ := h
  exact wpList_append_sl rfl s y t rfl e sz bytes hT v n xs hs hown x m news hy hx h1 hb hm hK

/-- A struct is written into a whole block that there is. -/
theorem wpList_store_row_lit (ty : TypeId) (x y : Operand)
    (h : ∃ g, a.eval x = .pointer (some ⟨g, 0, none⟩) ∧ ∃ (cur : Array Value) (t : TypeId), w.heap[g]? = some (.cells cur t (0, 0)) ∧ ∃ cs : List Value, a.eval y = .agg cs.toArray ∧ cs.length = cur.size ∧ (P.info? ty).map (·.size) = some cs.length ∧ cs.all (·.oneCell') = true ∧
      ∀ w', w'.heap[g]? = some (.cells cs.toArray t (0, 0)) → Mod (fun k => k = g) w w' → wpList P ops Q rest (a.put d undef) w') : wpList P ops Q (⟨d, .store ty x y, tp, pos, af, none⟩ :: rest) a w := by
  obtain ⟨g, hx, cur, t, hg, cs, hy, hl, hi, h1, h⟩ := h
  exact wpList_store_row rfl ty x y rfl g hx cur t hg cs hy cs.length rfl hl.symm hi h1 h
end
end Go.Proofs.Ytpfnemkfbelpcaa
