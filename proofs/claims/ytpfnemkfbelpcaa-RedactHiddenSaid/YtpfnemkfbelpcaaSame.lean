/-
  value.Same.
-/
import Derived.Test.YtpfnemkfbelpcaaValue
namespace Go.Proofs.Ytpfnemkfbelpcaa
set_option maxRecDepth 20000
open Go.RowKit

theorem same_at2 (x y : Nat) (hx : x < 2 ^ 64) (hy : y < 2 ^ 64) (w : World) :
    Calls Try.prog 64 #[.float .f64 x, .float .f64 y] w fun e w' => e = .returned (.bool (keyB x == keyB y)) ∧ w' = w := by
  have Hk1 := Lib.hid (key_at x hx w)
  have Hk2 := Lib.hid (key_at y hy w)
  go_enter Try.func64, Try.ntmps64
  go_wp2_with fail
  refine Hk1.out.mono ?_
  rintro e w1 ⟨rfl, rfl⟩
  go_wp2_with fail
  refine Hk2.out.mono ?_
  rintro e w2 ⟨rfl, rfl⟩
  go_wp2
  go_ret
  refine ⟨congrArg (fun b => Ending.returned (.bool b)) ?_, rfl⟩
  by_cases h : keyB x = keyB y
  · rw [h]; simp
  · rw [beq_eq_false_iff_ne.2 h, beq_eq_false_iff_ne.2 (by omega)]

/-- The same values? -/
def V.same (a b : V) : Bool := a.kind == b.kind && (if a.kind = 0 then a.int == b.int else if a.kind = 1 then keyB a.num == keyB b.num else if a.kind = 2 then a.text.toList == b.text.toList else a.yes == b.yes)

theorem value_same (a b : V) (ha : a.num < 2 ^ 64) (hb : b.num < 2 ^ 64) (w : World) :
    Calls Try.prog 45 #[.agg a.cells.toArray, .agg b.cells.toArray] w fun e w' => e = .returned (.bool (V.same a b)) ∧ Mod (fun _ => False) w w' := by
  obtain ⟨k1, i1, n1, t1, y1⟩ := a
  obtain ⟨k2, i2, n2, t2, y2⟩ := b
  have hsm := fun w => same_at2 n1 n2 ha hb w
  have Hsm := Lib.hid hsm
  have hm2 : ∀ A B : Obj, Mod (fun _ => False) w ((w.alloc A).alloc B) := fun A B => ((Mod.refl _ w).alloc _).alloc _
  have Hm2 := Lib.hid hm2
  clear hsm hm2 ha hb
  unfold V.cells V.same
  by_cases hk : k1 = k2
  · subst hk
    have hkk : (k1 == k1) = true := by simp
    simp only [hkk, Bool.true_and]
    rcases (by omega : k1 = 0 ∨ k1 = 1 ∨ k1 = 2 ∨ (k1 ≠ 0 ∧ k1 ≠ 1 ∧ k1 ≠ 2)) with h | h | h | ⟨h0, h1, h2⟩
    · subst h
      rw [if_pos rfl]
      go_enter Try.func45, Try.ntmps45
      go_wp2
      go_ret
      exact ⟨rfl, Hm2.out _ _⟩
    · subst h
      rw [if_neg (by decide), if_pos rfl]
      go_enter Try.func45, Try.ntmps45
      go_wp2_with fail
      refine (Hsm.out _).mono ?_
      rintro e w2 ⟨rfl, rfl⟩
      go_wp2
      go_ret
      exact ⟨rfl, Hm2.out _ _⟩
    · subst h
      rw [if_neg (by decide), if_neg (by decide), if_pos rfl]
      go_enter Try.func45, Try.ntmps45
      go_wp2
      go_ret
      exact ⟨rfl, Hm2.out _ _⟩
    · rw [if_neg h0, if_neg h1, if_neg h2]
      go_enter Try.func45, Try.ntmps45
      go_wp2
      go_ret
      exact ⟨rfl, Hm2.out _ _⟩
  · have hkk : (k1 == k2) = false := beq_eq_false_iff_ne.2 hk
    have hkn : (k1 != k2) = true := by simp [bne, hkk]
    simp only [hkk, Bool.false_and]
    go_enter Try.func45, Try.ntmps45
    go_wp2
    go_ret
    exact ⟨rfl, Hm2.out _ _⟩
theorem V.same_self (a : V) : V.same a a = true := by
  unfold V.same
  simp
end Go.Proofs.Ytpfnemkfbelpcaa
