/-
  Bytes in memory: new, cut, turned to a text.
-/
import Derived.Test.YtmlnklbjjnjplaaWby
namespace Go.Proofs.Ytmlnklbjjnjplaa
open Go.RowKit

theorem conv_at {w : World} {G : Nat} {a : Option Addr} {c : Nat} {bs : List UInt8} (h : BytesAt w G (.slice a bs.length c) bs) :
    (convert 22 9 (.slice a bs.length c)).run Try.prog w = .ok (.string (str bs)) w := by
  obtain ⟨a', c', h1, h2, h3, h4⟩ := h.ex
  cases h1
  cases a with
  | none =>
    have := h3 rfl
    obtain rfl : bs = [] := List.eq_nil_of_length_eq_zero (by omega)
    exact conv_nil
  | some b =>
    obtain ⟨off, rfl, -, h5⟩ := h4 b rfl
    exact conv_bytes rfl h5
theorem conv_own {w : World} {v : Value} {bs : List UInt8} {e : TypeId} (h : OwnSl w e 1 v bs.length (u8s bs)) : (convert 22 9 v).run Try.prog w = .ok (.string (str bs)) w := by
  have hrd := h.rd
  rcases h.2 with ⟨rfl, h0⟩ | ⟨g, off, cap, cur, rfl, -⟩
  · obtain rfl : bs = [] := List.eq_nil_of_length_eq_zero h0
    exact conv_nil
  · obtain ⟨-, a, c, h1, -, -, h4⟩ := hrd
    cases h1
    refine conv_bytes rfl (fun j u hu => ?_)
    obtain ⟨g', off', h5, h6⟩ := h4 _ rfl (by have := (List.getElem?_eq_some_iff.1 hu).1; omega)
    cases h5
    exact h6 j _ (by simp [u8s, hu])
theorem BytesAt.new (w : World) (bs : List UInt8) (t : TypeId) : BytesAt (w.alloc (.cells (u8s bs).toArray t)) w.heap.size (.slice (some ⟨w.heap.size, 0, none⟩) bs.length bs.length) bs :=
  ⟨_, _, rfl, Nat.le_refl _, (fun h => by cases h), fun b hb => ⟨0, (by cases hb; rfl), (by simp), fun j u hu => by
    have := CellsAt.new w (u8s bs) t j (.int .u8 (u.toNat : Int)) (by simp [u8s, hu])
    exact this⟩⟩
theorem BytesAt.take {w : World} {G : Nat} {a : Option Addr} {cap : Nat} {bs : List UInt8} (h : BytesAt w G (.slice a bs.length cap) bs) {n : Nat} (hn : n ≤ bs.length) : BytesAt w G (.slice a n cap) (bs.take n) := by
  obtain ⟨a', c', h1, h2, h3, h4⟩ := h.ex
  cases h1
  have hl : (bs.take n).length = n := by rw [List.length_take]; omega
  refine ⟨a, cap, by rw [hl], by rw [hl]; omega, h3, fun b hb => ?_⟩
  obtain ⟨off, h5, h6, h7⟩ := h4 b hb
  refine ⟨off, h5, h6, fun j u hu => h7 j u ?_⟩
  rw [List.getElem?_take] at hu
  split at hu
  · exact hu
  · cases hu
end Go.Proofs.Ytmlnklbjjnjplaa
