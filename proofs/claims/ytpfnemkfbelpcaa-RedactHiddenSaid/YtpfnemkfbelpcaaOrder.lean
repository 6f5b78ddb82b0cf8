/-
  Package order over the bits of floats.
-/
import Derived.Test.YtpfnemkfbelpcaaProg
import Derived.Test.YtpfnemkfbelpcaaMem
import Derived.WalkSpells
import Derived.Handy
import Derived.WalkLawsBesides
import Derived.BigRegion
import Derived.BigQuiet
import Derived.Lib.Hide
import Derived.Laws.BytesArg
import Derived.Laws.Bits128
import Derived.Laws.Externs
namespace Go.Proofs.Ytpfnemkfbelpcaa
set_option maxRecDepth 20000
open Go.RowKit

/-- Of two words of eight bytes: are they equal as numbers? -/
def fEq (x y : Nat) : Bool := FloatKind.f64.format.order x y == some .eq
def fLt (x y : Nat) : Bool := FloatKind.f64.format.order x y == some .lt
def nanB : Nat := 9221120237041090561
def canonB (x : Nat) : Nat := if fEq x x then (if fEq x 0 then 0 else x) else nanB
def keyB (x : Nat) : Nat := if fEq (canonB x) (canonB x) then (if canonB x < 2 ^ 63 then canonB x + 2 ^ 63 else 2 ^ 64 - 1 - canonB x) else 2 ^ 64 - 1
def unkeyB (k : Nat) : Nat := if k < 2 ^ 63 then 2 ^ 64 - 1 - k else k - 2 ^ 63
/-- The number of a key, and whether there is one. -/
def backB (k : Nat) : Nat × Bool := if k = 2 ^ 64 - 1 then (nanB, true) else if fEq (unkeyB k) (unkeyB k) && keyB (unkeyB k) == k then (unkeyB k, true) else (0, false)

theorem float_eql (t : TypeId) (x y : Nat) (w : World) : (binOp .eql t (.float .f64 x) (.float .f64 y)).run Try.prog w = .ok (.bool (fEq x y)) w := by
  simp [binOp, Op.floatCmp, fEq]
theorem float_neq (t : TypeId) (x y : Nat) (w : World) : (binOp .neq t (.float .f64 x) (.float .f64 y)).run Try.prog w = .ok (.bool (!fEq x y)) w := by
  simp [binOp, Op.floatCmp, fEq, bne]
theorem float_lss (t : TypeId) (x y : Nat) (w : World) : (binOp .lss t (.float .f64 x) (.float .f64 y)).run Try.prog w = .ok (.bool (fLt x y)) w := by
  simp [binOp, Op.floatCmp, fLt]

@[go_sem high] theorem shr63 (x : Int) : Op.shift .shr .u64 x .u64 63 = pure (.int .u64 (x / 9223372036854775808)) := by
  have h : (2 : Int) ^ min (63 : Int).toNat IntKind.u64.bits = 9223372036854775808 := by decide
  rw [shift_shr_any _ _ _ _ (by decide), h]

@[go_sem high] theorem not64 (n : Int) : Op.unary .xor (.int .u64 n) = pure (.int .u64 (bits .xor .u64 18446744073709551615 n)) := by
  rw [unary_xor]
  rfl

theorem ofInt64 {a : Nat} (h : a < 2 ^ 64) : (BitVec.ofInt 64 (a : Int)).toNat = a := by rw [BitVec.toNat_ofInt]; omega
theorem u64_not {a : Nat} (ha : a < 2 ^ 64) : bits .xor .u64 18446744073709551615 (a : Int) = ((2 ^ 64 - 1 - a : Nat) : Int) := by
  show IntKind.u64.wrap ((BitVec.ofInt 64 18446744073709551615 ^^^ BitVec.ofInt 64 (a : Int)).toNat : Int) = _
  have h1 : BitVec.ofInt 64 18446744073709551615 = BitVec.allOnes 64 := by decide
  rw [h1, BitVec.allOnes_xor, BitVec.toNat_not, ofInt64 ha, IntKind.wrap_u64]
  omega
theorem u64_or63 {a : Nat} (ha : a < 2 ^ 63) : bits .or .u64 (a : Int) 9223372036854775808 = ((a + 2 ^ 63 : Nat) : Int) := by
  have h2 : (BitVec.ofInt 64 9223372036854775808).toNat = 2 ^ 63 * 1 := by decide
  have key : (BitVec.ofInt 64 (a : Int) ||| BitVec.ofInt 64 9223372036854775808).toNat = a + 2 ^ 63 := by
    rw [BitVec.toNat_or, h2, ofInt64 (by omega), Nat.or_comm, ← Nat.two_pow_add_eq_or_of_lt ha]
    omega
  show IntKind.u64.wrap ((BitVec.ofInt 64 (a : Int) ||| BitVec.ofInt 64 9223372036854775808).toNat : Int) = _
  rw [key, IntKind.wrap_u64]
  omega
theorem u64_clear63 {a : Nat} (ha : a < 2 ^ 64) : bits .andNot .u64 (a : Int) 9223372036854775808 = ((a % 2 ^ 63 : Nat) : Int) := by
  have h2 : ~~~ BitVec.ofInt 64 9223372036854775808 = BitVec.ofInt 64 9223372036854775807 := by decide
  have h3 : (BitVec.ofInt 64 9223372036854775807).toNat = 2 ^ 63 - 1 := by decide
  have key : (BitVec.ofInt 64 (a : Int) &&& ~~~ BitVec.ofInt 64 9223372036854775808).toNat = a % 2 ^ 63 := by
    rw [h2, BitVec.toNat_and, h3, ofInt64 ha, Nat.and_two_pow_sub_one_eq_mod]
  show IntKind.u64.wrap ((BitVec.ofInt 64 (a : Int) &&& ~~~ BitVec.ofInt 64 9223372036854775808).toNat : Int) = _
  rw [key, IntKind.wrap_u64]
  omega

theorem call_frombits (n : Int) (w : World) : (callFunc 121 #[.int .u64 n]).run Try.prog w = .ok (.value (.float .f64 n.toNat)) w := by
  rw [run_callFunc_extern Try.func121 (by kernel_rfl) (by kernel_rfl) (by kernel_rfl) (e := Extern.MathFloatBits.float64frombits) (by kernel_rfl) _ w]
  rfl
theorem call_bits (x : Nat) (w : World) : (callFunc 115 #[.float .f64 x]).run Try.prog w = .ok (.value (.int .u64 x)) w := by
  rw [run_callFunc_extern Try.func115 (by kernel_rfl) (by kernel_rfl) (by kernel_rfl) (e := Extern.MathFloatBits.float64bits) (by kernel_rfl) _ w]
  rfl

theorem nan_at (w : World) : Calls Try.prog 112 #[] w fun e w' => e = .returned (.float .f64 nanB) ∧ w' = w := by
  have h := call_frombits 9221120237041090561 w
  go_enter Try.func112, Try.ntmps112
  go_wp2
  go_ret
  exact ⟨rfl, rfl⟩

theorem none_at (x : Nat) (w : World) : Calls Try.prog 94 #[.float .f64 x] w fun e w' => e = .returned (.bool (!fEq x x)) ∧ w' = w := by
  have h1 := float_neq 44 x x
  go_enter Try.func94, Try.ntmps94
  go_wp2
  go_ret
  exact ⟨rfl, rfl⟩
theorem less_at (x y : Nat) (w : World) : Calls Try.prog 117 #[.float .f64 x, .float .f64 y] w fun e w' => e = .returned (.bool (fLt x y)) ∧ w' = w := by
  go_enter Try.func117, Try.ntmps117
  go_wp2
  go_ret
  exact ⟨rfl, rfl⟩

theorem same_at (x y : Nat) (w : World) (hk : ∀ z w, Calls Try.prog 93 #[.float .f64 z] w fun e w' => e = .returned (.int .u64 (keyB z : Nat)) ∧ w' = w) :
    Calls Try.prog 64 #[.float .f64 x, .float .f64 y] w fun e w' => e = .returned (.bool (keyB x == keyB y)) ∧ w' = w := by
  go_enter Try.func64, Try.ntmps64
  have hk1 := hk x w
  have hk2 := hk y w
  have Hk1 := Lib.hid hk1
  have Hk2 := Lib.hid hk2
  clear hk hk1 hk2
  go_wp2_with fail
  refine Hk1.out.mono ?_
  rintro e w1 ⟨rfl, rfl⟩
  go_wp2_with fail
  refine Hk2.out.mono ?_
  rintro e w2 ⟨rfl, rfl⟩
  go_wp2
  go_ret
  refine ⟨?_, rfl⟩
  have : ((keyB x : Int) == (keyB y : Int)) = (keyB x == keyB y) := by
    rw [Bool.eq_iff_iff, beq_iff_eq, beq_iff_eq]
    exact Int.ofNat_inj
  exact congrArg (fun b => Ending.returned (.bool b)) this

theorem canon_at (x : Nat) (w : World) : Calls Try.prog 85 #[.float .f64 x] w fun e w' => e = .returned (.float .f64 (canonB x)) ∧ w' = w := by
  have Hn := Lib.hid (nan_at w)
  unfold canonB fEq
  cases hx : FloatKind.f64.format.order x x == some .eq with
  | false =>
    have hx' : (FloatKind.f64.format.order x x != some .eq) = true := by rw [bne, hx]; rfl
    go_enter Try.func85, Try.ntmps85
    go_wp2_with fail
    refine Hn.out.mono ?_
    rintro e w1 ⟨rfl, rfl⟩
    go_wp2
    go_ret
    exact ⟨rfl, rfl⟩
  | true =>
    have hx' : (FloatKind.f64.format.order x x != some .eq) = false := by rw [bne, hx]; rfl
    cases h0 : FloatKind.f64.format.order x 0 == some .eq with
    | false =>
      go_enter Try.func85, Try.ntmps85
      go_wp2
      go_ret
      exact ⟨rfl, rfl⟩
    | true =>
      go_enter Try.func85, Try.ntmps85
      go_wp2
      go_ret
      exact ⟨rfl, rfl⟩

theorem canonB_lt {x : Nat} (h : x < 2 ^ 64) : canonB x < 2 ^ 64 := by
  unfold canonB nanB
  split <;> (try split) <;> omega

theorem key_at (x : Nat) (hx : x < 2 ^ 64) (w : World) : Calls Try.prog 93 #[.float .f64 x] w fun e w' => e = .returned (.int .u64 (keyB x : Nat)) ∧ w' = w := by
  have Hc := Lib.hid (canon_at x w)
  have hc := canonB_lt hx
  have hK : keyB x = keyB x := rfl
  conv at hK => rhs; unfold keyB
  unfold fEq at hK
  generalize keyB x = K at *
  generalize canonB x = c at *
  have Hb := Lib.hid (call_bits c w)
  cases hcc : FloatKind.f64.format.order c c == some .eq with
  | false =>
    rw [hcc] at hK
    have HK := Lib.hid hK
    clear hK
    have hx' : (FloatKind.f64.format.order c c != some .eq) = true := by rw [bne, hcc]; rfl
    go_enter Try.func93, Try.ntmps93
    go_wp2_with fail
    refine Hc.out.mono ?_
    rintro e w1 ⟨rfl, rfl⟩
    go_wp2
    go_ret
    exact ⟨by rw [HK.out]; rfl, rfl⟩
  | true =>
    rw [hcc, if_pos rfl] at hK
    have HK := Lib.hid hK
    clear hK
    have hx' : (FloatKind.f64.format.order c c != some .eq) = false := by rw [bne, hcc]; rfl
    have hc0 : (c : Int) < 18446744073709551616 := by omega
    by_cases h63 : c < 2 ^ 63
    · have he : ((c : Int) / 9223372036854775808 == 1) = false := by rw [beq_eq_false_iff_ne]; omega
      have H0 := Lib.hid hc0
      clear hc0
      have H63 := Lib.hid h63
      have HC := Lib.hid hc
      clear h63 hc hx
      go_enter Try.func93, Try.ntmps93
      go_wp2_with fail
      refine Hc.out.mono ?_
      rintro e w1 ⟨rfl, rfl⟩
      have hb := Hb.out
      go_wp2
      go_ret
      rw [if_pos H63.out] at HK
      exact ⟨by rw [HK.out]; exact congrArg (fun z => Ending.returned (.int .u64 z)) (u64_or63 H63.out), rfl⟩
    · have he : ((c : Int) / 9223372036854775808 == 1) = true := by rw [beq_iff_eq]; omega
      have H0 := Lib.hid hc0
      clear hc0
      have H63 := Lib.hid h63
      have HC := Lib.hid hc
      clear h63 hc hx
      go_enter Try.func93, Try.ntmps93
      go_wp2_with fail
      refine Hc.out.mono ?_
      rintro e w1 ⟨rfl, rfl⟩
      have hb := Hb.out
      go_wp2
      go_ret
      rw [if_neg H63.out] at HK
      exact ⟨by rw [HK.out]; exact congrArg (fun z => Ending.returned (.int .u64 z)) (u64_not HC.out), rfl⟩

theorem unkeyB_lt {k : Nat} (h : k < 2 ^ 64) : unkeyB k < 2 ^ 64 := by unfold unkeyB; split <;> omega
end Go.Proofs.Ytpfnemkfbelpcaa
