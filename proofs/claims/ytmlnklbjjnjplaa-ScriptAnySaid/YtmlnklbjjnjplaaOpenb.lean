/-
  An argument of bytes, opened.
-/
import Derived.Test.YtmlnklbjjnjplaaRow
import Derived.Test.YtmlnklbjjnjplaaBytes
import Derived.Deep.Grids
namespace Go.Proofs.Ytmlnklbjjnjplaa
open Go.ChangeShapes Go.WideShapes Go.ChangeAt Go.RowKit

theorem wf_u8_in {n : Int} (h : (Lit.int .u8 n).wf = true) : 0 ≤ n ∧ n ≤ 255 := by
  simp only [Lit.wf, Bool.and_eq_true, decide_eq_true_eq] at h
  exact ⟨h.1, h.2⟩

theorem open_bytes {H : Type} {enc : TypeId × Value → H} {W : World} {base : Nat} {v : Value} {d : DataW H} {p : List MemPlace} (hok : Value.okWide Try.prog W .any base 22 v)
    (h : DataW.Trod enc Try.prog W 0 (fun _ => true) true 22 v d p) : ∃ G bs, BytesAt W G v bs ∧ bs.length ≤ maxLen ∧ G ≤ W.heap.size := by
  obtain ⟨A, n, cap, rfl⟩ := okWide_slice Try.underlying22 hok
  obtain ⟨m, hm⟩ := h
  rcases Go.Deep.open_slice1 Try.underlying22 (by kernel_rfl) hm with ⟨hcs, -⟩ | ⟨a, len, cap', m', k, V, D, Pl, hcs, -, hlc, hcm, hmm, -, hcell⟩
  · have hcs : [Value.slice A n cap] = _ := hcs
    simp only [List.cons.injEq, and_true, Value.slice.injEq] at hcs
    obtain ⟨rfl, rfl, rfl⟩ := hcs
    exact ⟨0, [], ⟨none, 0, rfl, Nat.le_refl _, fun _ => rfl, fun b hb => by cases hb⟩, Nat.zero_le _, Nat.zero_le _⟩
  · have hcs : [Value.slice A n cap] = _ := hcs
    simp only [List.cons.injEq, and_true, Value.slice.injEq] at hcs
    obtain ⟨rfl, rfl, rfl⟩ := hcs
    simp only [if_true] at hmm
    subst hmm
    have hsp : a.spot = none ∧ a.block < W.heap.size := by
      simp only [Value.okWide, Try.underlying22, Cell.okWide, Cell.ok, World.has] at hok
      obtain ⟨-, -, -, h1, row, cells, h2, -⟩ := hok
      refine ⟨h1, ?_⟩
      unfold World.shape? at h2
      split at h2
      · rename_i hq; exact (Array.getElem?_eq_some_iff.1 hq).1
      · cases h2
    clear hm hcs hok
    obtain ⟨G, off, spot⟩ := a
    obtain ⟨rfl, hG⟩ := hsp
    refine ⟨G, (List.range n).map fun i => match V i with | .int _ x => UInt8.ofNat x.toNat | _ => 0, ⟨some ⟨G, off, none⟩, m', by simp, by simpa using hlc, (fun h => by cases h), fun b hb => ⟨off, (by cases hb; rfl), hG, fun j u hu => ?_⟩⟩, by simp; omega, Nat.le_of_lt hG⟩
    rw [List.getElem?_map] at hu
    by_cases hj : j < n
    · rw [List.getElem?_range hj] at hu
      simp only [Option.map_some, Option.some.injEq] at hu
      obtain ⟨h1, h2⟩ := hcell j (by omega)
      obtain ⟨x, hx, -, hwf⟩ := DataW.trod_int Try.underlying5 h2
      simp only [List.cons.injEq, and_true] at hx
      rw [hx] at hu h1
      simp only at hu
      obtain ⟨hx0, hx1⟩ := wf_u8_in hwf
      rw [← hu, ← addr_add]
      rw [h1]
      congr 2
      simp
      omega
    · rw [List.getElem?_eq_none (by simpa using hj)] at hu
      cases hu
end Go.Proofs.Ytmlnklbjjnjplaa
