/-
  The next op of bytes.
-/
import Derived.Test.YtmlnklbjjnjplaaNextA
import Derived.Test.YtmlnklbjjnjplaaNextB
import Derived.Test.YtmlnklbjjnjplaaNextC
import Derived.Test.YtmlnklbjjnjplaaNextE
import Derived.Test.YtmlnklbjjnjplaaNextD
namespace Go.Proofs.Ytmlnklbjjnjplaa
open Go.RowKit

theorem next_at (w : World) (r G : Nat) (bs : List UInt8) (h : Rdr w r G bs) (hG : G < w.heap.size) :
    Calls Try.prog 11 #[.pointer (some ⟨r, 0, none⟩)] w (NextPost w r G bs) := by
  cases hb : readB bs with
  | none => exact next_D w r G bs h hG (fun k t e => by rw [hb] at e; cases e)
  | some p =>
    obtain ⟨k, t⟩ := p
    have hk : ∀ k' t', readB bs = some (k', t') → k' = k := fun k' t' e => by rw [hb] at e; cases e; rfl
    by_cases hA : k = 4 ∨ k = 5
    · exact next_A w r G bs h hG (fun k' t' e => by rw [hk k' t' e]; exact hA)
    by_cases hB : k = 6 ∨ k = 7
    · exact next_B w r G bs h hG (fun k' t' e => by rw [hk k' t' e]; exact hB)
    by_cases hC : k = 3 ∨ k = 2
    · exact next_C w r G bs h hG (fun k' t' e => by rw [hk k' t' e]; exact hC)
    by_cases hE : k = 1 ∨ k = 0
    · exact next_E w r G bs h hG (fun k' t' e => by rw [hk k' t' e]; exact hE)
    exact next_D w r G bs h hG (fun k' t' e => by rw [hk k' t' e]; omega)
end Go.Proofs.Ytmlnklbjjnjplaa
