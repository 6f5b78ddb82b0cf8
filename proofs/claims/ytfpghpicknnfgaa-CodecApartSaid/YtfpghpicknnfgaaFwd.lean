/-
  What was written, read: the value as it is kept.
-/
import Derived.Test.YtfpghpicknnfgaaBack
import Derived.Test.YtfpghpicknnfgaaReadsc
namespace Go.Proofs.Ytfpghpicknnfgaa
open Go.RowKit

theorem fEq_0 : fEq 0 0 = true := by decide +kernel
theorem fEq_max : fEq (2 ^ 63 - 1) (2 ^ 63 - 1) = false := by decide +kernel

theorem canon_self {x : Nat} (h : fEq (canonB x) (canonB x) = true) : canonB (canonB x) = canonB x := by
  have hnan : fEq nanB nanB = false := by decide +kernel
  unfold canonB at h ⊢
  split at h
  · rename_i h1
    split at h
    · rename_i h2
      simp only [h1, h2, if_true, fEq_0]
    · rename_i h2
      simp only [h1, h2, if_true, if_false, Bool.false_eq_true]
  · rw [hnan] at h; cases h

/-- A key's number is the number as it is kept. -/
theorem back_of_key {x : Nat} (hx : x < 2 ^ 64) : backB (keyB x) = (canonB x, true) := by
  have hc := canonB_lt hx
  cases hf : fEq (canonB x) (canonB x) with
  | false =>
    have hk : keyB x = 2 ^ 64 - 1 := by unfold keyB; rw [hf]; rfl
    unfold backB
    rw [if_pos hk]
    congr 1
    unfold canonB at hf ⊢
    split at hf
    · rename_i h1
      split at hf
      · rw [fEq_0] at hf; cases hf
      · rw [h1] at hf; cases hf
    · rename_i h1
      rw [if_neg h1]
  | true =>
    have hcs := canon_self hf
    obtain ⟨y, hy⟩ : ∃ y, canonB x = y := ⟨_, rfl⟩
    rw [hy] at hf hc hcs
    have hk : keyB x = if y < 2 ^ 63 then y + 2 ^ 63 else 2 ^ 64 - 1 - y := by unfold keyB; rw [hy, hf]; rfl
    have hky : keyB y = if y < 2 ^ 63 then y + 2 ^ 63 else 2 ^ 64 - 1 - y := by unfold keyB; rw [hcs, hf]; rfl
    have hmax : y ≠ 2 ^ 63 - 1 := fun h => by rw [h, fEq_max] at hf; cases hf
    have hne : keyB x ≠ 2 ^ 64 - 1 := by rw [hk]; split <;> omega
    have hun : unkeyB (keyB x) = y := by
      rw [hk]
      unfold unkeyB
      split
      · rename_i h; rw [if_neg (by omega)]; omega
      · rename_i h; rw [if_pos (by omega)]; omega
    unfold backB
    rw [if_neg hne, hun, hf, hky, ← hk, hy]
    simp

/-- A value that may be written: its number of so many bits. -/
structure V.fits (v : V) : Prop where
  right : v.right = true
  int : -9223372036854775808 ≤ v.int ∧ v.int ≤ 9223372036854775807
  num : v.num < 2 ^ 64

theorem byteOf_nat (k : Nat) (h : k ≤ 255) : (byteOf (k : Int)).toNat = k := by
  have := byteOf_toNat (k : Int)
  rw [IntKind.wrap_u8] at this
  omega

theorem readV_fwd (v : V) (t : List UInt8) (h : v.fits) : readV (valBytes v ++ t) = some (v.canon, t) := by
  obtain ⟨hr, hi, hn⟩ := h
  obtain ⟨kind, int, num, text, yes⟩ := v
  unfold V.right at hr
  simp only [Bool.and_eq_true, decide_eq_true_eq] at hr
  obtain ⟨h0, h3, ht⟩ := hr
  obtain ⟨k, rfl⟩ : ∃ k : Nat, kind = k := ⟨kind.toNat, by omega⟩
  have hk := byteOf_nat k (by omega)
  unfold valBytes
  rw [List.cons_append, readV_cons, hk]
  have hk3 : k ≤ 3 := by omega
  rcases (by omega : k = 0 ∨ k = 1 ∨ k = 2 ∨ k = 3) with rfl | rfl | rfl | rfl
  · rw [if_pos rfl]
    show (if 8 ≤ (longBytes (int % 18446744073709551616).toNat ++ t).length then _ else none) = _
    have hl : (longBytes (int % 18446744073709551616).toNat).length = 8 := longBytes_length _
    rw [if_pos (by rw [List.length_append]; omega)]
    show some (({ V.zero with kind := 0, int := wrap64 (longOf ((longBytes (int % 18446744073709551616).toNat ++ t).take 8) : Nat) } : V), (longBytes (int % 18446744073709551616).toNat ++ t).drop 8) = _
    rw [List.take_append_of_le_length (by omega), List.take_of_length_le (by omega), List.drop_append_of_le_length (by omega), List.drop_of_length_le (by omega), List.nil_append, long_fwd _ (by omega)]
    have hw : wrap64 (((int % 18446744073709551616).toNat : Nat) : Int) = int := by unfold wrap64; simp only at hi; omega
    rw [hw]
    rfl
  · rw [if_neg (by omega), if_pos rfl]
    have hl : (longBytes (keyB num)).length = 8 := longBytes_length _
    have hkl := keyB_lt (x := num) hn
    show (if 8 ≤ (longBytes (keyB num) ++ t).length ∧ (backB (longOf ((longBytes (keyB num) ++ t).take 8))).2 = true then some (({ V.zero with kind := 1, num := (backB (longOf ((longBytes (keyB num) ++ t).take 8))).1 } : V), (longBytes (keyB num) ++ t).drop 8) else none) = _
    rw [List.take_append_of_le_length (by omega), List.take_of_length_le (by omega), List.drop_append_of_le_length (by omega), List.drop_of_length_le (by omega), List.nil_append, long_fwd _ hkl, back_of_key hn]
    rw [if_pos ⟨by rw [List.length_append]; omega, rfl⟩]
    rfl
  · rw [if_neg (by omega), if_neg (by omega), if_pos rfl]
    show (if (byteOf (text.size : Int)).toNat ≤ (txt text ++ t).length ∧ (byteOf (text.size : Int)).toNat ≤ 40 then some (({ V.zero with kind := 2, text := str ((txt text ++ t).take (byteOf (text.size : Int)).toNat) } : V), (txt text ++ t).drop (byteOf (text.size : Int)).toNat) else none) = _
    rw [byteOf_nat text.size (by omega), if_pos ⟨by rw [List.length_append, txt_length]; omega, ht⟩, ← txt_length text, List.take_left, List.drop_left]
    rfl
  · rw [if_neg (by omega), if_neg (by omega), if_neg (by omega), if_pos rfl]
    show (if (if yes = true then (1 : UInt8) else 0).toNat ≤ 1 then some (({ V.zero with kind := 3, yes := (if yes = true then (1 : UInt8) else 0).toNat == 1 } : V), t) else none) = _
    cases yes <;> rfl
end Go.Proofs.Ytfpghpicknnfgaa
