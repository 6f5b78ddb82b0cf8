/-
  The order of texts, and strings.Compare.
-/
import Derived.Test.YtpfnemkfbelpcaaRight
import Derived.Lib.Bytealg
namespace Go.Proofs.Ytpfnemkfbelpcaa
set_option maxRecDepth 20000
open Go.RowKit

theorem less_cons (a b : UInt8) (s t : List UInt8) : Op.bytesLess (a :: s) (b :: t) = if a < b then true else if b < a then false else Op.bytesLess s t := by
  rw [Op.bytesLess]
  by_cases h1 : a < b
  · simp [h1]
  · by_cases h2 : b < a
    · have h3 : (a == b) = false := by
        rw [beq_eq_false_iff_ne]
        rintro rfl
        exact h1 h2
      simp [h1, h2, h3]
    · have h3 : a = b := UInt8.toNat.inj (by
        have h4 : ¬ a.toNat < b.toNat := h1
        have h5 : ¬ b.toNat < a.toNat := h2
        omega)
      simp [h3]
theorem cmp_cons (a b : UInt8) (s t : List UInt8) : Lib.compareBytes (a :: s) (b :: t) = if a < b then -1 else if b < a then 1 else Lib.compareBytes s t := by
  rw [Lib.compareBytes]
theorem cmp_less : ∀ a b : List UInt8, (Lib.compareBytes a b < 0) ↔ Op.bytesLess a b = true
  | [], [] => by decide
  | [], b :: t => by simp [Lib.compareBytes, Op.bytesLess]
  | a :: s, [] => by simp [Lib.compareBytes, Op.bytesLess]
  | a :: s, b :: t => by
    rw [less_cons, cmp_cons]
    split
    · simp
    · split
      · simp
      · exact cmp_less s t
theorem cmp_zero : ∀ a b : List UInt8, (Lib.compareBytes a b = 0) ↔ a = b
  | [], [] => by decide
  | [], b :: t => by simp [Lib.compareBytes]
  | a :: s, [] => by simp [Lib.compareBytes]
  | a :: s, b :: t => by
    rw [cmp_cons]
    split
    · rename_i h
      constructor
      · intro h'; cases h'
      · intro h'; cases h'; exact absurd h (by simp)
    · rename_i h
      split
      · rename_i h1
        constructor
        · intro h'; cases h'
        · intro h'; cases h'; exact absurd h1 h
      · rename_i h1
        have hab : a = b := by
          have h2 : ¬ a.toNat < b.toNat := h
          have h3 : ¬ b.toNat < a.toNat := h1
          exact UInt8.toNat.inj (by omega)
        subst hab
        rw [cmp_zero s t]
        simp
theorem less_trans : ∀ a b c : List UInt8, Op.bytesLess a b = true → Op.bytesLess b c = true → Op.bytesLess a c = true
  | _, [], [], _, h => by simp [Op.bytesLess] at h
  | [], [], _ :: _, h, _ => by simp [Op.bytesLess] at h
  | _ :: _, [], _ :: _, h, _ => by simp [Op.bytesLess] at h
  | _, _ :: _, [], _, h => by simp [Op.bytesLess] at h
  | [], _ :: _, _ :: _, _, _ => by simp [Op.bytesLess]
  | a :: s, b :: t, c :: u, h, k => by
    rw [less_cons] at h k ⊢
    have e : ∀ x y : UInt8, x < y ↔ x.toNat < y.toNat := fun _ _ => Iff.rfl
    by_cases h1 : a < b
    · by_cases k1 : b < c
      · rw [if_pos (by rw [e] at *; omega)]
      · by_cases k2 : c < b
        · rw [if_neg k1, if_pos k2] at k; cases k
        · rw [if_pos (by rw [e] at *; omega)]
    · by_cases h2 : b < a
      · rw [if_neg h1, if_pos h2] at h; cases h
      · rw [if_neg h1, if_neg h2] at h
        by_cases k1 : b < c
        · rw [if_pos (by rw [e] at *; omega)]
        · by_cases k2 : c < b
          · rw [if_neg k1, if_pos k2] at k; cases k
          · rw [if_neg k1, if_neg k2] at k
            rw [if_neg (by rw [e] at *; omega), if_neg (by rw [e] at *; omega)]
            exact less_trans s t u h k
theorem less_irrefl : ∀ a : List UInt8, Op.bytesLess a a = false
  | [] => rfl
  | a :: s => by
    have e : ¬ a < a := by simp
    rw [less_cons, if_neg e, if_neg e, less_irrefl s]
theorem less_total (a b : List UInt8) (h : Op.bytesLess a b = false) (hne : a ≠ b) : Op.bytesLess b a = true := by
  induction a generalizing b with
  | nil => cases b with
    | nil => exact absurd rfl hne
    | cons b t => simp [Op.bytesLess] at h
  | cons a s ih => cases b with
    | nil => simp [Op.bytesLess]
    | cons b t =>
      rw [less_cons] at h ⊢
      by_cases h1 : a < b
      · rw [if_pos h1] at h; cases h
      · rw [if_neg h1] at h
        by_cases h2 : b < a
        · rw [if_pos h2]
        · rw [if_neg h2] at h
          rw [if_neg h2, if_neg h1]
          have hab : a = b := by
            have h2 : ¬ b.toNat < a.toNat := h2
            have h3 : ¬ a.toNat < b.toNat := h1
            exact UInt8.toNat.inj (by omega)
          subst hab
          exact ih t h (fun h => hne (by rw [h]))

theorem cmps_at (a b : ByteArray) (w : World) : Calls Try.prog 113 #[.string a, .string b] w fun e w' => e = .returned (.int .i64 (Lib.compareBytes a.data.toList b.data.toList)) ∧ w' = w := by
  go_enter Try.func113, Try.ntmps113
  go_wp2
  rw [run_callFunc_extern Try.func122 (by kernel_rfl) (by kernel_rfl) (by kernel_rfl) (e := Extern.BytealgCompare.compare) (by kernel_rfl), Lib.run_compareString]
  simp only [Result.andThen]
  rw [Oper.upon_value]
  go_wp2
  go_ret
  exact ⟨rfl, rfl⟩
theorem cmp_at (a b : ByteArray) (w : World) : Calls Try.prog 88 #[.string a, .string b] w fun e w' => e = .returned (.int .i64 (Lib.compareBytes a.data.toList b.data.toList)) ∧ w' = w := by
  go_enter Try.func88, Try.ntmps88
  go_wp2_with fail
  refine (cmps_at a b w).mono ?_
  rintro e w' ⟨rfl, rfl⟩
  go_wp2
  go_ret
  exact ⟨rfl, rfl⟩
end Go.Proofs.Ytpfnemkfbelpcaa
