/-
  A field's cell of a struct that came in by value.
-/
import Derived.Test.YtpfnemkfbelpcaaRow
namespace Go.Proofs.Ytpfnemkfbelpcaa
set_option maxRecDepth 20000
open Go.ChangeShapes Go.WideShapes Go.ChangeAt Go.RowKit

theorem okWide_cell {P : Program} {w : World} {r : Reach} {base : Nat} {t : TypeId} {cs : Array Value} {fs : Array Field} {ts : List TypeId} (hu : P.underlying t = some (.struct fs)) (hts : P.cellTypes P.depth t = some ts)
    (h : Value.okWide P w r base t (.agg cs)) {i : Nat} {v : Value} {u : TypeId} (hi : cs[i]? = some v) (hu' : ts[i % ts.length]? = some u) : Cell.okWide P w r base u v := by
  simp only [Value.okWide, hu] at h
  obtain ⟨cs', h1, -, ts', h3, -, h4⟩ := h
  cases h1
  obtain rfl : ts = ts' := Option.some.inj (hts.symm.trans h3)
  obtain ⟨u', h5, h6⟩ := h4 i v hi
  obtain rfl : u = u' := Option.some.inj (hu'.symm.trans h5)
  exact h6
theorem okWide_slice_cell {P : Program} {w : World} {r : Reach} {base : Nat} {t e : TypeId} {v : Value} (hu : P.underlying t = some (.slice e)) (h : Cell.okWide P w r base t v) : Value.okWide P w r base t v := by
  simp only [Value.okWide, hu]
  exact h
end Go.Proofs.Ytpfnemkfbelpcaa
