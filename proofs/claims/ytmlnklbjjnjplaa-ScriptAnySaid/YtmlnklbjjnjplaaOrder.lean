/-
  Package order over the bits of floats.
-/
import Derived.Test.YtmlnklbjjnjplaaBytes
import Derived.Laws.Externs
namespace Go.Proofs.Ytmlnklbjjnjplaa
open Go.RowKit

/-- Of two words of eight bytes: are they equal as numbers? -/
def fEq (x y : Nat) : Bool := FloatKind.f64.format.order x y == some .eq
def fLt (x y : Nat) : Bool := FloatKind.f64.format.order x y == some .lt
def nanB : Nat := 9221120237041090561
def canonB (x : Nat) : Nat := if fEq x x then (if fEq x 0 then 0 else x) else nanB
def keyB (x : Nat) : Nat := if fEq (canonB x) (canonB x) then (if canonB x < 2 ^ 63 then canonB x + 2 ^ 63 else 2 ^ 64 - 1 - canonB x) else 2 ^ 64 - 1
def unkeyB (k : Nat) : Nat := if k < 2 ^ 63 then 2 ^ 64 - 1 - k else k - 2 ^ 63
/-- The number of a key, and whether there is one. -/
def backB (k : Nat) : Nat × Bool := if k = 2 ^ 64 - 1 then (nanB, true) else if fEq (unkeyB k) (unkeyB k) && keyB (unkeyB k) == k then (unkeyB k, true) else (0, false)

theorem float_eql (t : TypeId) (x y : Nat) (w : World) : (binOp .eql t (.float .f64 x) (.float .f64 y)).run Try.prog w = .ok (.bool (fEq x y)) w := by
  simp [binOp, Op.floatCmp, fEq]
theorem float_neq (t : TypeId) (x y : Nat) (w : World) : (binOp .neq t (.float .f64 x) (.float .f64 y)).run Try.prog w = .ok (.bool (!fEq x y)) w := by
  simp [binOp, Op.floatCmp, fEq, bne]
theorem float_lss (t : TypeId) (x y : Nat) (w : World) : (binOp .lss t (.float .f64 x) (.float .f64 y)).run Try.prog w = .ok (.bool (fLt x y)) w := by
  simp [binOp, Op.floatCmp, fLt]

@[go_sem high] theorem shr63 (x : Int) : Op.shift .shr .u64 x .u64 63 = pure (.int .u64 (x / 9223372036854775808)) := by
  have h : (2 : Int) ^ min (63 : Int).toNat IntKind.u64.bits = 9223372036854775808 := by decide
  rw [shift_shr_any _ _ _ _ (by decide), h]

@[go_sem high] theorem not64 (n : Int) : Op.unary .xor (.int .u64 n) = pure (.int .u64 (bits .xor .u64 18446744073709551615 n)) := by
  rw [unary_xor]
  rfl

theorem ofInt64 {a : Nat} (h : a < 2 ^ 64) : (BitVec.ofInt 64 (a : Int)).toNat = a := by rw [BitVec.toNat_ofInt]; omega
theorem u64_not {a : Nat} (ha : a < 2 ^ 64) : bits .xor .u64 18446744073709551615 (a : Int) = ((2 ^ 64 - 1 - a : Nat) : Int) := by
  show IntKind.u64.wrap ((BitVec.ofInt 64 18446744073709551615 ^^^ BitVec.ofInt 64 (a : Int)).toNat : Int) = _
  have h1 : BitVec.ofInt 64 18446744073709551615 = BitVec.allOnes 64 := by decide
  rw [h1, BitVec.allOnes_xor, BitVec.toNat_not, ofInt64 ha, IntKind.wrap_u64]
  omega
theorem u64_or63 {a : Nat} (ha : a < 2 ^ 63) : bits .or .u64 (a : Int) 9223372036854775808 = ((a + 2 ^ 63 : Nat) : Int) := by
  have h2 : (BitVec.ofInt 64 9223372036854775808).toNat = 2 ^ 63 * 1 := by decide
  have key : (BitVec.ofInt 64 (a : Int) ||| BitVec.ofInt 64 9223372036854775808).toNat = a + 2 ^ 63 := by
    rw [BitVec.toNat_or, h2, ofInt64 (by omega), Nat.or_comm, ← Nat.two_pow_add_eq_or_of_lt ha]
    omega
  show IntKind.u64.wrap ((BitVec.ofInt 64 (a : Int) ||| BitVec.ofInt 64 9223372036854775808).toNat : Int) = _
  rw [key, IntKind.wrap_u64]
  omega
theorem u64_clear63 {a : Nat} (ha : a < 2 ^ 64) : bits .andNot .u64 (a : Int) 9223372036854775808 = ((a % 2 ^ 63 : Nat) : Int) := by
  have h2 : ~~~ BitVec.ofInt 64 9223372036854775808 = BitVec.ofInt 64 9223372036854775807 := by decide
  have h3 : (BitVec.ofInt 64 9223372036854775807).toNat = 2 ^ 63 - 1 := by decide
  have key : (BitVec.ofInt 64 (a : Int) &&& ~~~ BitVec.ofInt 64 9223372036854775808).toNat = a % 2 ^ 63 := by
    rw [h2, BitVec.toNat_and, h3, ofInt64 ha, Nat.and_two_pow_sub_one_eq_mod]
  show IntKind.u64.wrap ((BitVec.ofInt 64 (a : Int) &&& ~~~ BitVec.ofInt 64 9223372036854775808).toNat : Int) = _
  rw [key, IntKind.wrap_u64]
  omega

theorem call_frombits (n : Int) (w : World) : (callFunc 41 #[.int .u64 n]).run Try.prog w = .ok (.value (.float .f64 n.toNat)) w := by
  rw [run_callFunc_extern Try.func41 (by kernel_rfl) (by kernel_rfl) (by kernel_rfl) (e := Extern.MathFloatBits.float64frombits) (by kernel_rfl) _ w]
  rfl
theorem call_bits (x : Nat) (w : World) : (callFunc 46 #[.float .f64 x]).run Try.prog w = .ok (.value (.int .u64 x)) w := by
  rw [run_callFunc_extern Try.func46 (by kernel_rfl) (by kernel_rfl) (by kernel_rfl) (e := Extern.MathFloatBits.float64bits) (by kernel_rfl) _ w]
  rfl

theorem nan_at (w : World) : Calls Try.prog 42 #[] w fun e w' => e = .returned (.float .f64 nanB) ∧ w' = w := by
  have h := call_frombits 9221120237041090561 w
  go_enter Try.func42, Try.ntmps42
  go_wp2
  go_ret
  exact ⟨rfl, rfl⟩

theorem none_at (x : Nat) (w : World) : Calls Try.prog 51 #[.float .f64 x] w fun e w' => e = .returned (.bool (!fEq x x)) ∧ w' = w := by
  have h1 := float_neq 50 x x
  go_enter Try.func51, Try.ntmps51
  go_wp2
  go_ret
  exact ⟨rfl, rfl⟩
theorem canon_at (x : Nat) (w : World) : Calls Try.prog 45 #[.float .f64 x] w fun e w' => e = .returned (.float .f64 (canonB x)) ∧ w' = w := by
  have Hn := Lib.hid (nan_at w)
  unfold canonB fEq
  cases hx : FloatKind.f64.format.order x x == some .eq with
  | false =>
    have hx' : (FloatKind.f64.format.order x x != some .eq) = true := by rw [bne, hx]; rfl
    go_enter Try.func45, Try.ntmps45
    go_wp2_with fail
    refine Hn.out.mono ?_
    rintro e w1 ⟨rfl, rfl⟩
    go_wp2
    go_ret
    exact ⟨rfl, rfl⟩
  | true =>
    have hx' : (FloatKind.f64.format.order x x != some .eq) = false := by rw [bne, hx]; rfl
    cases h0 : FloatKind.f64.format.order x 0 == some .eq with
    | false =>
      go_enter Try.func45, Try.ntmps45
      go_wp2
      go_ret
      exact ⟨rfl, rfl⟩
    | true =>
      go_enter Try.func45, Try.ntmps45
      go_wp2
      go_ret
      exact ⟨rfl, rfl⟩

theorem canonB_lt {x : Nat} (h : x < 2 ^ 64) : canonB x < 2 ^ 64 := by
  unfold canonB nanB
  split <;> (try split) <;> omega

theorem key_at (x : Nat) (hx : x < 2 ^ 64) (w : World) : Calls Try.prog 39 #[.float .f64 x] w fun e w' => e = .returned (.int .u64 (keyB x : Nat)) ∧ w' = w := by
  have Hc := Lib.hid (canon_at x w)
  have hc := canonB_lt hx
  have hK : keyB x = keyB x := rfl
  conv at hK => rhs; unfold keyB
  unfold fEq at hK
  generalize keyB x = K at *
  generalize canonB x = c at *
  have Hb := Lib.hid (call_bits c w)
  cases hcc : FloatKind.f64.format.order c c == some .eq with
  | false =>
    rw [hcc] at hK
    have HK := Lib.hid hK
    clear hK
    have hx' : (FloatKind.f64.format.order c c != some .eq) = true := by rw [bne, hcc]; rfl
    go_enter Try.func39, Try.ntmps39
    go_wp2_with fail
    refine Hc.out.mono ?_
    rintro e w1 ⟨rfl, rfl⟩
    go_wp2
    go_ret
    exact ⟨by rw [HK.out]; rfl, rfl⟩
  | true =>
    rw [hcc, if_pos rfl] at hK
    have HK := Lib.hid hK
    clear hK
    have hx' : (FloatKind.f64.format.order c c != some .eq) = false := by rw [bne, hcc]; rfl
    have hc0 : (c : Int) < 18446744073709551616 := by omega
    by_cases h63 : c < 2 ^ 63
    · have he : ((c : Int) / 9223372036854775808 == 1) = false := by rw [beq_eq_false_iff_ne]; omega
      have H0 := Lib.hid hc0
      clear hc0
      have H63 := Lib.hid h63
      have HC := Lib.hid hc
      clear h63 hc hx
      go_enter Try.func39, Try.ntmps39
      go_wp2_with fail
      refine Hc.out.mono ?_
      rintro e w1 ⟨rfl, rfl⟩
      have hb := Hb.out
      go_wp2
      go_ret
      rw [if_pos H63.out] at HK
      exact ⟨by rw [HK.out]; exact congrArg (fun z => Ending.returned (.int .u64 z)) (u64_or63 H63.out), rfl⟩
    · have he : ((c : Int) / 9223372036854775808 == 1) = true := by rw [beq_iff_eq]; omega
      have H0 := Lib.hid hc0
      clear hc0
      have H63 := Lib.hid h63
      have HC := Lib.hid hc
      clear h63 hc hx
      go_enter Try.func39, Try.ntmps39
      go_wp2_with fail
      refine Hc.out.mono ?_
      rintro e w1 ⟨rfl, rfl⟩
      have hb := Hb.out
      go_wp2
      go_ret
      rw [if_neg H63.out] at HK
      exact ⟨by rw [HK.out]; exact congrArg (fun z => Ending.returned (.int .u64 z)) (u64_not HC.out), rfl⟩

theorem unkeyB_lt {k : Nat} (h : k < 2 ^ 64) : unkeyB k < 2 ^ 64 := by unfold unkeyB; split <;> omega

theorem back_at (k : Nat) (hk : k < 2 ^ 64) (w : World) : Calls Try.prog 36 #[.int .u64 (k : Nat)] w fun e w' => e = .returned (.tuple #[.float .f64 (backB k).1, .bool (backB k).2]) ∧ w' = w := by
  obtain ⟨b, hb⟩ : ∃ b, unkeyB k = b := ⟨_, rfl⟩
  have hbl : b < 2 ^ 64 := hb ▸ unkeyB_lt hk
  have Hkey := Lib.hid (key_at b hbl w)
  have hfb := call_frombits (b : Int) w
  have Hn := Lib.hid (nan_at w)
  rw [show ((b : Int)).toNat = b by omega] at hfb
  have hcl : bits .andNot .u64 (k : Int) 9223372036854775808 = ((k % 2 ^ 63 : Nat) : Int) := u64_clear63 hk
  have hnt : bits .xor .u64 18446744073709551615 (k : Int) = ((2 ^ 64 - 1 - k : Nat) : Int) := u64_not hk
  obtain ⟨c1, hc1⟩ : ∃ c1, k % 2 ^ 63 = c1 := ⟨_, rfl⟩
  obtain ⟨c2, hc2⟩ : ∃ c2, 2 ^ 64 - 1 - k = c2 := ⟨_, rfl⟩
  rw [hc1] at hcl
  rw [hc2] at hnt
  obtain ⟨R, hR⟩ : ∃ R, backB k = R := ⟨_, rfl⟩
  rw [hR]
  unfold backB fEq at hR
  rw [hb] at hR
  have HR := Lib.hid hR
  clear hR
  have hbk : (k < 2 ^ 63 ∧ b = c2) ∨ (2 ^ 63 ≤ k ∧ b = c1) := by unfold unkeyB at hb; split at hb <;> omega
  have hk0 : ((k : Int) / 9223372036854775808 == 0) = decide (k < 2 ^ 63) := by
    rw [Bool.eq_iff_iff, beq_iff_eq, decide_eq_true_iff]; omega
  have hkm : ((k : Int) == 18446744073709551615) = decide (k = 2 ^ 64 - 1) := by
    rw [Bool.eq_iff_iff, beq_iff_eq, decide_eq_true_iff]; omega
  rcases hbk with ⟨h63, rfl⟩ | ⟨h63, rfl⟩
  · rw [decide_eq_true h63] at hk0
    rw [decide_eq_false (by omega)] at hkm
    have Hne : Hid (¬ k = 2 ^ 64 - 1) := Lib.hid (by omega)
    clear hk hbl h63 hc1 hc2 hb
    cases hbb : FloatKind.f64.format.order b b == some .eq with
    | false =>
      have hx' : (FloatKind.f64.format.order b b != some .eq) = true := by rw [bne, hbb]; rfl
      go_enter Try.func36, Try.ntmps36
      go_wp2
      go_ret2
      have h := HR.out
      rw [if_neg Hne.out, hbb, Bool.false_and, if_neg (by decide)] at h
      subst h
      exact ⟨rfl, rfl⟩
    | true =>
      have hx' : (FloatKind.f64.format.order b b != some .eq) = false := by rw [bne, hbb]; rfl
      cases hkk : keyB b == k with
      | false =>
        have hk1 : (((keyB b : Nat) : Int) != (k : Int)) = true := by rw [bne_iff_ne]; intro h; rw [beq_eq_false_iff_ne] at hkk; exact hkk (Int.ofNat_inj.1 h)
        have Hkk := Lib.hid hkk
        clear hkk
        go_enter Try.func36, Try.ntmps36
        go_wp2_with fail
        refine Hkey.out.mono ?_
        rintro e w1 ⟨rfl, rfl⟩
        go_wp2
        go_ret2
        have h := HR.out
        rw [if_neg Hne.out, hbb, Hkk.out, if_neg (by decide)] at h
        subst h
        exact ⟨rfl, rfl⟩
      | true =>
        have hk1 : (((keyB b : Nat) : Int) != (k : Int)) = false := by rw [beq_iff_eq] at hkk; rw [hkk]; simp
        have Hkk := Lib.hid hkk
        clear hkk
        go_enter Try.func36, Try.ntmps36
        go_wp2_with fail
        refine Hkey.out.mono ?_
        rintro e w1 ⟨rfl, rfl⟩
        go_wp2
        go_ret2
        have h := HR.out
        rw [if_neg Hne.out, hbb, Hkk.out, if_pos (by decide)] at h
        subst h
        exact ⟨rfl, rfl⟩
  · rw [decide_eq_false (by omega)] at hk0
    by_cases hm : k = 2 ^ 64 - 1
    · rw [decide_eq_true hm] at hkm
      have Hne := Lib.hid hm
      clear hk hbl h63 hc1 hc2 hb hm
      go_enter Try.func36, Try.ntmps36
      go_wp2_with fail
      refine Hn.out.mono ?_
      rintro e w1 ⟨rfl, rfl⟩
      go_wp2
      go_ret2
      have h := HR.out
      rw [if_pos Hne.out] at h
      subst h
      exact ⟨rfl, rfl⟩
    · rw [decide_eq_false hm] at hkm
      have Hne := Lib.hid hm
      clear hk hbl h63 hc1 hc2 hb hm
      cases hbb : FloatKind.f64.format.order b b == some .eq with
      | false =>
        have hx' : (FloatKind.f64.format.order b b != some .eq) = true := by rw [bne, hbb]; rfl
        go_enter Try.func36, Try.ntmps36
        go_wp2
        go_ret2
        have h := HR.out
        rw [if_neg Hne.out, hbb, Bool.false_and, if_neg (by decide)] at h
        subst h
        exact ⟨rfl, rfl⟩
      | true =>
        have hx' : (FloatKind.f64.format.order b b != some .eq) = false := by rw [bne, hbb]; rfl
        cases hkk : keyB b == k with
        | false =>
          have hk1 : (((keyB b : Nat) : Int) != (k : Int)) = true := by rw [bne_iff_ne]; intro h; rw [beq_eq_false_iff_ne] at hkk; exact hkk (Int.ofNat_inj.1 h)
          have Hkk := Lib.hid hkk
          clear hkk
          go_enter Try.func36, Try.ntmps36
          go_wp2_with fail
          refine Hkey.out.mono ?_
          rintro e w1 ⟨rfl, rfl⟩
          go_wp2
          go_ret2
          have h := HR.out
          rw [if_neg Hne.out, hbb, Hkk.out, if_neg (by decide)] at h
          subst h
          exact ⟨rfl, rfl⟩
        | true =>
          have hk1 : (((keyB b : Nat) : Int) != (k : Int)) = false := by rw [beq_iff_eq] at hkk; rw [hkk]; simp
          have Hkk := Lib.hid hkk
          clear hkk
          go_enter Try.func36, Try.ntmps36
          go_wp2_with fail
          refine Hkey.out.mono ?_
          rintro e w1 ⟨rfl, rfl⟩
          go_wp2
          go_ret2
          have h := HR.out
          rw [if_neg Hne.out, hbb, Hkk.out, if_pos (by decide)] at h
          subst h
          exact ⟨rfl, rfl⟩
end Go.Proofs.Ytmlnklbjjnjplaa
