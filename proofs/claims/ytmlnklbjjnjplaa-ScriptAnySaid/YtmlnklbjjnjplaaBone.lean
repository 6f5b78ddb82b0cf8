/-
  A slice literal of one struct, whose cells nobody reckons.
-/
import Derived.Test.YtmlnklbjjnjplaaLit
import Derived.Great.BuildSlice
namespace Go.Proofs.Ytmlnklbjjnjplaa
open Go.RowKit

theorem wpList_build_one_lit {P : Program} {w : World} {ops : Array Oper} {rest : List Oper} {a : Act} {Q : Exit → Act → World → Prop} {d : Option Tmp} {tp : TypeId} {pos : String} {af : Array Edge} (t : TypeId) (x : Operand)
    (h : ∃ (e : TypeId) (sz : Nat), P.underlying t = some (.slice e) ∧ (P.info? e).map (·.size) = some sz ∧ ((P.info? e).bind (·.zero)).isSome = true ∧ 0 < sz ∧ sz ≤ 1000 ∧ ∃ cs : List Value, a.eval x = .agg cs.toArray ∧ cs.length = sz ∧
      wpList P ops Q rest (a.put d (.slice (some ⟨w.heap.size, 0, none⟩) 1 1)) (w.alloc (.cells cs.toArray e))) : wpList P ops Q (⟨d, .buildSlice t 1 #[(0, x)], tp, pos, af, none⟩ :: rest) a w := by
  obtain ⟨e, sz, hu, hs, hz, h0, h1, cs, hx, hl, h⟩ := h
  cases hi : P.info? e with
  | none => simp [hi] at hs
  | some i =>
    rw [hi] at hs hz
    simp only [Option.map_some, Option.some.injEq, Option.bind_some] at hs hz
    obtain ⟨z, hzz⟩ := Option.isSome_iff_exists.1 hz
    refine wpList_buildSlice rfl t e 1 #[(0, x)] rfl cs.toArray i z hu hi hzz (by rw [hs]; omega) (by rw [hs]; omega) ?_ h
    have hf := Great.fill_whole (s := sz) h0 [.agg cs.toArray] ((Array.range (1 * sz)).map (z.cells[· % z.cells.size]!)) (fun v hv => by rw [List.mem_singleton.1 hv]; simp [Value.cells, hl]) (by simp)
    rw [hs]
    have e1 : (#[(0, x)].map fun (i, x) => (i, a.eval x)).toList = [(0, Value.agg cs.toArray)] := by simp [hx]
    rw [e1]
    simpa [Value.cells] using hf
end Go.Proofs.Ytmlnklbjjnjplaa
