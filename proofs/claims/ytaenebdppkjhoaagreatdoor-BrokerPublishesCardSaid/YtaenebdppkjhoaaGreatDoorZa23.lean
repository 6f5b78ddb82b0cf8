/-
  A number's bits.
-/
import Derived.Test.YtaenebdppkjhoaaGreatDoorZa21
namespace Go.Proofs.YtaenebdppkjhoaaGreatDoor
set_option maxRecDepth 20000
open Go.RowKit

theorem call_sbits (x : Nat) (w : World) : (callFunc 226 #[.float .f64 x]).run Tryz.prog w = .ok (.value (.int .u64 x)) w := by
  rw [run_callFunc_extern Tryz.func226 (by kernel_rfl) (by kernel_rfl) (by kernel_rfl) (e := Extern.MathFloatBits.float64bits) (by kernel_rfl) _ w]
  rfl

theorem and_u64 (n k : Nat) (hk : k < 64) (hn : n < 18446744073709551616) : bits .and .u64 (n : Int) ((2 ^ k - 1 : Nat) : Int) = ((n % 2 ^ k : Nat) : Int) := by
  have hp : 2 ^ k < 2 ^ 64 := Nat.pow_lt_pow_right (by decide) hk
  have hp0 : 0 < 2 ^ k := Nat.two_pow_pos k
  have h1 : (BitVec.ofInt 64 ((2 ^ k - 1 : Nat) : Int)).toNat = 2 ^ k - 1 := by
    rw [BitVec.toNat_ofInt]
    omega
  have h2 : (BitVec.ofInt 64 (n : Int)).toNat = n := by
    rw [BitVec.toNat_ofInt]
    omega
  have key : (BitVec.ofInt 64 (n : Int) &&& BitVec.ofInt 64 ((2 ^ k - 1 : Nat) : Int)).toNat = n % 2 ^ k := by
    rw [BitVec.toNat_and, h1, h2, Nat.and_two_pow_sub_one_eq_mod]
  have hlt : n % 2 ^ k < 2 ^ k := Nat.mod_lt _ hp0
  show IntKind.u64.wrap ((BitVec.ofInt 64 (n : Int) &&& BitVec.ofInt 64 ((2 ^ k - 1 : Nat) : Int)).toNat : Int) = _
  rw [key, wrap_u64]
  omega
theorem or_u64 (n : Nat) (hn : n < 4503599627370496) : bits .or .u64 (n : Int) 4503599627370496 = ((n + 4503599627370496 : Nat) : Int) := by
  have h1 : (BitVec.ofInt 64 (4503599627370496 : Int)).toNat = 2 ^ 52 := by decide
  have h2 : (BitVec.ofInt 64 (n : Int)).toNat = n := by
    rw [BitVec.toNat_ofInt]
    omega
  have key : (BitVec.ofInt 64 (n : Int) ||| BitVec.ofInt 64 (4503599627370496 : Int)).toNat = n + 4503599627370496 := by
    rw [BitVec.toNat_or, h1, h2, Nat.or_comm]
    have h := Nat.two_pow_add_eq_or_of_lt (i := 52) hn 1
    rw [Nat.mul_one] at h
    omega
  show IntKind.u64.wrap ((BitVec.ofInt 64 (n : Int) ||| BitVec.ofInt 64 (4503599627370496 : Int)).toNat : Int) = _
  rw [key, wrap_u64]
  omega
end Go.Proofs.YtaenebdppkjhoaaGreatDoor
