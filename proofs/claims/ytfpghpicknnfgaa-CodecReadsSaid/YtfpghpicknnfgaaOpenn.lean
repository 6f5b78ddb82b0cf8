/-
  An argument of numbers, opened.
-/
import Derived.Test.YtfpghpicknnfgaaOpenb
import Derived.Test.YtfpghpicknnfgaaReadsc
namespace Go.Proofs.Ytfpghpicknnfgaa
open Go.ChangeShapes Go.WideShapes Go.ChangeAt Go.RowKit

theorem open_nums {H : Type} {enc : TypeId × Value → H} {W : World} {base : Nat} {v : Value} {d : DataW H} {p : List MemPlace} (hok : Value.okWide Try.prog W .any base 32 v)
    (h : DataW.Trod enc Try.prog W 0 (fun _ => true) true 32 v d p) : ∃ xs, Nums W v xs ∧ xs.length ≤ maxLen ∧ ∀ b, v.ownBlock = some b → b < W.heap.size := by
  obtain ⟨A, n, cap, rfl⟩ := okWide_slice Try.underlying32 hok
  obtain ⟨m, hm⟩ := h
  rcases Go.Deep.open_slice1 Try.underlying32 (by kernel_rfl) hm with ⟨hcs, -⟩ | ⟨a, len, cap', m', k, V, D, Pl, hcs, -, hlc, hcm, hmm, -, hcell⟩
  · have hcs : [Value.slice A n cap] = _ := hcs
    simp only [List.cons.injEq, and_true, Value.slice.injEq] at hcs
    obtain ⟨rfl, rfl, rfl⟩ := hcs
    exact ⟨[], ⟨none, 0, rfl, fun _ => rfl, fun b hb => (by cases hb)⟩, Nat.zero_le _, fun b hb => (by cases hb)⟩
  · have hcs : [Value.slice A n cap] = _ := hcs
    simp only [List.cons.injEq, and_true, Value.slice.injEq] at hcs
    obtain ⟨rfl, rfl, rfl⟩ := hcs
    simp only [if_true] at hmm
    subst hmm
    have hsp : a.block < W.heap.size := by
      simp only [Value.okWide, Try.underlying32, Cell.okWide, Cell.ok, World.has] at hok
      obtain ⟨-, -, -, h1, row, cells, h2, -⟩ := hok
      unfold World.shape? at h2
      split at h2
      · rename_i hq; exact (Array.getElem?_eq_some_iff.1 hq).1
      · cases h2
    clear hm hcs hok
    refine ⟨(List.range n).map fun i => match V i with | .int _ x => x.toNat | _ => 0, ⟨some a, m', by simp, (fun h => by cases h), fun b hb j x hx => ?_⟩, by simp; omega, fun b hb => ?_⟩
    · cases hb
      rw [List.getElem?_map] at hx
      by_cases hj : j < n
      · rw [List.getElem?_range hj] at hx
        simp only [Option.map_some, Option.some.injEq] at hx
        obtain ⟨h1, h2⟩ := hcell j (by omega)
        obtain ⟨z, hz, -, hwf⟩ := DataW.trod_int Try.underlying35 h2
        simp only [List.cons.injEq, and_true] at hz
        rw [hz] at hx h1
        simp only at hx
        simp only [Lit.wf, Bool.and_eq_true, decide_eq_true_eq] at hwf
        have h0 : (0 : Int) ≤ z := hwf.1
        have h3 : z ≤ 18446744073709551615 := hwf.2
        rw [h1, ← hx]
        exact ⟨by rw [Int.toNat_of_nonneg h0], by omega⟩
      · rw [List.getElem?_eq_none (by simpa using hj)] at hx
        cases hx
    · have hb' : some a.block = some b := hb
      cases hb'
      exact hsp
end Go.Proofs.Ytfpghpicknnfgaa
