/-
  Ops in memory.
-/
import Derived.Test.YtmlnklbjjnjplaaNext
namespace Go.Proofs.Ytmlnklbjjnjplaa
open Go.RowKit

theorem ops_T : SliceT Try.prog 24 37 18 240 := sliceT (by kernel_rfl) (by kernel_rfl)
def opsCells (l : List (PO × Lie)) : List Value := l.flatMap fun p => opCells p.1 p.2
theorem opsCells_snoc (l : List (PO × Lie)) (p : PO × Lie) : opsCells (l ++ [p]) = opsCells l ++ opCells p.1 p.2 := by unfold opsCells; simp
theorem opsCells_at (l : List (PO × Lie)) {k j : Nat} {p : PO × Lie} {u : Value} (h : l[k]? = some p) (hj : (opCells p.1 p.2)[j]? = some u) : (opsCells l)[18 * k + j]? = some u := by
  induction l generalizing k with
  | nil => simp at h
  | cons b l ih =>
    unfold opsCells at ih ⊢
    rw [List.flatMap_cons]
    cases k with
    | zero =>
      simp only [List.getElem?_cons_zero, Option.some.injEq] at h
      subst h
      have := (List.getElem?_eq_some_iff.1 hj).1
      rw [List.getElem?_append_left (by omega), Nat.mul_zero, Nat.zero_add, hj]
    | succ k =>
      rw [List.getElem?_cons_succ] at h
      rw [List.getElem?_append_right (by rw [opCells_length]; omega), opCells_length, show 18 * (k + 1) + j - 18 = 18 * k + j by omega]
      exact ih h
/-- A block in which one of its lists lies. -/
def OpBlk (p : PO × Lie) (b : Nat) : Prop := (Value.slice p.2.ra p.1.r.cs.length p.2.rc).ownBlock = some b ∨ (Value.slice p.2.ea p.1.es.length p.2.ec).ownBlock = some b ∨ (Value.slice p.2.fa p.1.fs.length p.2.fc).ownBlock = some b
theorem OpOwn.keep {w w' : World} {B : Nat} {F : Nat → Prop} {p : PO × Lie} (h : OpOwn w B p.1 p.2) (hm : Mod F w w') (hF : ∀ b, OpBlk p b → ¬ F b) : OpOwn w' B p.1 p.2 :=
  ⟨h.r.mod hm (fun b hb => hF b (.inl hb)), h.e.mod hm (fun b hb => hF b (.inr (.inl hb))), h.f.mod hm (fun b hb => hF b (.inr (.inr hb))), h.rb, h.eb, h.fb⟩
theorem OpOwn.lt {w : World} {B : Nat} {p : PO × Lie} (h : OpOwn w B p.1 p.2) {b : Nat} (hb : OpBlk p b) : B ≤ b ∧ b < w.heap.size := by
  rcases hb with hb | hb | hb
  · exact ⟨h.rb b hb, h.r.lt b hb⟩
  · exact ⟨h.eb b hb, h.e.lt b hb⟩
  · exact ⟨h.fb b hb, h.f.lt b hb⟩
theorem OpOwn.low {w : World} {B C : Nat} {o : PO} {y : Lie} (h : OpOwn w B o y) (hC : C ≤ B) : OpOwn w C o y :=
  ⟨h.r, h.e, h.f, fun b hb => Nat.le_trans hC (h.rb b hb), fun b hb => Nat.le_trans hC (h.eb b hb), fun b hb => Nat.le_trans hC (h.fb b hb)⟩
structure OpsAt (w : World) (B : Nat) (v : Value) (l : List (PO × Lie)) : Prop where
  own : OwnSl w 37 18 v l.length (opsCells l)
  vb : ∀ b, v.ownBlock = some b → B ≤ b
  ops : ∀ p ∈ l, OpOwn w B p.1 p.2
  apart : ∀ p ∈ l, ∀ b, v.ownBlock = some b → ¬ OpBlk p b
theorem OpsAt.nil (w : World) (B : Nat) : OpsAt w B (.slice none 0 0) [] := ⟨OwnSl.nil _ _ _, fun b hb => (by cases hb), fun p hp => (by cases hp), fun p hp => (by cases hp)⟩
theorem OpsAt.mod {w w' : World} {B : Nat} {F : Nat → Prop} {v : Value} {l : List (PO × Lie)} (h : OpsAt w B v l) (hm : Mod F w w') (hF : ∀ b, F b → b < B) : OpsAt w' B v l :=
  ⟨h.own.mod hm (fun b hb hf => by have := h.vb b hb; have := hF b hf; omega), h.vb, fun p hp => (h.ops p hp).keep hm (fun b hb hf => by have := ((h.ops p hp).lt hb).1; have := hF b hf; omega), h.apart⟩
theorem OpsAt.app {w w' : World} {B : Nat} {v v' : Value} {l : List (PO × Lie)} {p : PO × Lie} (h : OpsAt w B v l) (hp : OpOwn w B p.1 p.2) (hv : ∀ b, v.ownBlock = some b → ¬ OpBlk p b) (hB : B ≤ w.heap.size)
    (hA : Appended w 37 18 v (l.length + 1) (opsCells l ++ opCells p.1 p.2) v' w') : OpsAt w' B v' (l ++ [p]) := by
  obtain ⟨h1, h2, h3⟩ := hA
  have hall : ∀ q ∈ l ++ [p], OpOwn w B q.1 q.2 ∧ ∀ b, v.ownBlock = some b → ¬ OpBlk q b := fun q hq => by
    rcases List.mem_append.1 hq with hq | hq
    · exact ⟨h.ops q hq, h.apart q hq⟩
    · rw [List.mem_singleton.1 hq]; exact ⟨hp, hv⟩
  refine ⟨by rw [List.length_append, opsCells_snoc]; exact h1, fun b hb => ?_, fun q hq => (hall q hq).1.keep h2 (fun b hb hin => (hall q hq).2 b hin hb), fun q hq b hb hq2 => ?_⟩
  · rcases h3 with e | ⟨k, e, hk⟩
    · exact h.vb b (by rw [← e]; exact hb)
    · rw [e] at hb; cases hb; omega
  · rcases h3 with e | ⟨k, e, hk⟩
    · exact (hall q hq).2 b (by rw [← e]; exact hb) hq2
    · rw [e] at hb; cases hb
      have := ((hall q hq).1.lt hq2).2
      omega
end Go.Proofs.Ytmlnklbjjnjplaa
