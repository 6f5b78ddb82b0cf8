/-
  Masks.
-/
import Derived.Test.YtnckccpcpndcmaaTlaw
namespace Go.Proofs.Ytnckccpcpndcmaa
open Go.RowKit

theorem and_pow (n : Int) (k : Nat) (hk : k < 63) : bits .and .i64 n ((2 ^ k - 1 : Nat) : Int) = n % ((2 ^ k : Nat) : Int) := by
  have hp : 2 ^ k < 2 ^ 63 := Nat.pow_lt_pow_right (by decide) hk
  have hp0 : 0 < 2 ^ k := Nat.two_pow_pos k
  have h127 : (BitVec.ofInt 64 ((2 ^ k - 1 : Nat) : Int)).toNat = 2 ^ k - 1 := by
    rw [BitVec.toNat_ofInt]
    omega
  have key : (BitVec.ofInt 64 n &&& BitVec.ofInt 64 ((2 ^ k - 1 : Nat) : Int)).toNat = (n % ((2 ^ 64 : Nat) : Int)).toNat % 2 ^ k := by
    rw [BitVec.toNat_and, BitVec.toNat_ofInt, h127, Nat.and_two_pow_sub_one_eq_mod]
  show IntKind.i64.wrap ((BitVec.ofInt 64 n &&& BitVec.ofInt 64 ((2 ^ k - 1 : Nat) : Int)).toNat : Nat) = n % ((2 ^ k : Nat) : Int)
  rw [key, IntKind.wrap_i64]
  have h1 : (n % ((2 ^ 64 : Nat) : Int)).toNat % 2 ^ k < 2 ^ k := Nat.mod_lt _ hp0
  have h2 : (((n % ((2 ^ 64 : Nat) : Int)).toNat % 2 ^ k : Nat) : Int) = n % ((2 ^ k : Nat) : Int) := by
    rw [Int.natCast_emod, Int.toNat_of_nonneg (Int.emod_nonneg _ (by decide))]
    exact Int.emod_emod_of_dvd n (by exact_mod_cast Nat.pow_dvd_pow 2 (by omega))
  rw [← h2]
  generalize (n % ((2 ^ 64 : Nat) : Int)).toNat % 2 ^ k = q at *
  omega
theorem and7 (n : Int) : ∃ t : Nat, bits .and .i64 n 7 = t ∧ t < 8 := ⟨(n % 8).toNat, by
  have := and_pow n 3 (by decide)
  have e : bits .and .i64 n 7 = n % 8 := this
  rw [e]
  omega, by omega⟩
theorem and16 (n : Int) : ∃ t : Nat, bits .and .i64 n 65535 = t ∧ t < 65536 := ⟨(n % 65536).toNat, by
  have := and_pow n 16 (by decide)
  have e : bits .and .i64 n 65535 = n % 65536 := this
  rw [e]
  omega, by omega⟩
end Go.Proofs.Ytnckccpcpndcmaa
