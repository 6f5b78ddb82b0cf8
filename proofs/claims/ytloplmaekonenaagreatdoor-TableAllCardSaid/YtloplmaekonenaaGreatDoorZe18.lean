/-
  Floats as bits: how order and keys agree.
  The order of texts, and strings.Compare.
-/
import Derived.Test.YtloplmaekonenaaGreatDoorZe3
import Derived.Test.YtloplmaekonenaaGreatDoorZe4
import Derived.Lib.Bytealg
namespace Go.Proofs.YtloplmaekonenaaGreatDoor
set_option maxRecDepth 20000
open Go.RowKit

/-- A rung's magnitude, in units of the least one. -/
def rungV (r : Nat) : Nat := (if r < 2 ^ 52 then r else 2 ^ 52 + r % 2 ^ 52) <<< (r / 2 ^ 52 - 1)
theorem rungV_lt {r s : Nat} (h : r < s) : rungV r < rungV s := by
  unfold rungV
  rw [Nat.shiftLeft_eq, Nat.shiftLeft_eq]
  have hr := Nat.div_add_mod r (2 ^ 52)
  have hs := Nat.div_add_mod s (2 ^ 52)
  have hrm := Nat.mod_lt r (show 0 < 2 ^ 52 by decide)
  have hsm := Nat.mod_lt s (show 0 < 2 ^ 52 by decide)
  have hde : r / 2 ^ 52 ≤ s / 2 ^ 52 := Nat.div_le_div_right (by omega)
  generalize r / 2 ^ 52 = e at *
  generalize s / 2 ^ 52 = d at *
  generalize r % 2 ^ 52 = p at *
  generalize s % 2 ^ 52 = q at *
  rcases Nat.lt_or_eq_of_le hde with hlt | rfl
  · have h2 : ¬ s < 2 ^ 52 := by omega
    rw [if_neg h2]
    have hp : 2 ^ (e - 1) ≤ 2 ^ (d - 1) := Nat.pow_le_pow_right (by decide) (by omega)
    by_cases he : e = 0
    · subst he
      have h1 : r < 2 ^ 52 := by omega
      rw [if_pos h1]
      have h3 : 1 ≤ 2 ^ (d - 1) := Nat.one_le_two_pow
      have h4 : r * 2 ^ (0 - 1) = r := by simp
      rw [h4]
      calc r < 2 ^ 52 := h1
        _ = 2 ^ 52 * 1 := by rw [Nat.mul_one]
        _ ≤ (2 ^ 52 + q) * 2 ^ (d - 1) := Nat.mul_le_mul (by omega) h3
    · have h1 : ¬ r < 2 ^ 52 := by omega
      rw [if_neg h1]
      have h3 : 2 ^ (d - 1) = 2 ^ (d - 1 - e) * 2 ^ e := by rw [← Nat.pow_add]; congr 1; omega
      have h4 : 2 ^ e = 2 * 2 ^ (e - 1) := by
        conv => lhs; rw [show e = (e - 1) + 1 by omega, Nat.pow_succ]
        rw [Nat.mul_comm]
      have h5 : 1 ≤ 2 ^ (d - 1 - e) := Nat.one_le_two_pow
      have h6 : 1 ≤ 2 ^ (e - 1) := Nat.one_le_two_pow
      have h7 : 2 * 2 ^ (e - 1) ≤ 2 ^ (d - 1) := by
        rw [h3, h4]
        calc 2 * 2 ^ (e - 1) = 1 * (2 * 2 ^ (e - 1)) := by rw [Nat.one_mul]
          _ ≤ 2 ^ (d - 1 - e) * (2 * 2 ^ (e - 1)) := Nat.mul_le_mul_right _ h5
      calc (2 ^ 52 + p) * 2 ^ (e - 1) < (2 ^ 52 * 2) * 2 ^ (e - 1) := Nat.mul_lt_mul_of_pos_right (by omega) (by omega)
        _ = 2 ^ 52 * (2 * 2 ^ (e - 1)) := by rw [Nat.mul_assoc]
        _ ≤ 2 ^ 52 * 2 ^ (d - 1) := Nat.mul_le_mul_left _ h7
        _ ≤ (2 ^ 52 + q) * 2 ^ (d - 1) := Nat.mul_le_mul_right _ (by omega)
  · have h6 : 0 < 2 ^ (e - 1) := Nat.two_pow_pos _
    refine Nat.mul_lt_mul_of_pos_right ?_ h6
    by_cases he : e = 0
    · subst he
      rw [if_pos (by omega), if_pos (by omega)]
      exact h
    · rw [if_neg (by omega), if_neg (by omega)]
      omega
theorem rungV_inj {r s : Nat} (h : rungV r = rungV s) : r = s := by
  rcases Nat.lt_trichotomy r s with h1 | h1 | h1
  · have := rungV_lt h1; omega
  · exact h1
  · have := rungV_lt h1; omega
theorem rungV_zero {r : Nat} : rungV r = 0 ↔ r = 0 := ⟨fun h => rungV_inj (h.trans (by decide)), fun h => by subst h; decide⟩

def sgnB (x : Nat) : Bool := x / 2 ^ 63 % 2 == 1
def rungB (x : Nat) : Nat := x % 2 ^ 63
def isNum (x : Nat) : Prop := rungB x ≤ 9218868437227405312

theorem read_num {x : Nat} (h : rungB x < 9218868437227405312) :
    FloatKind.f64.format.read x = .number (sgnB x) (if rungB x < 2 ^ 52 then rungB x else 2 ^ 52 + rungB x % 2 ^ 52) (-1074 + (rungB x / 2 ^ 52 - 1 : Nat)) := by
  have e1 : FloatKind.f64.format.signWeight = 2 ^ 63 := by decide
  have e2 : FloatKind.f64.format.binade = 2 ^ 52 := by decide
  have e3 : FloatKind.f64.format.infRung = 9218868437227405312 := by decide
  have e4 : FloatKind.f64.format.leastPlace = -1074 := by decide
  unfold Ieee.Format.read
  rw [e1, e2, e3, e4]
  show (if rungB x < 2 ^ 52 then Ieee.Datum.number (sgnB x) (rungB x) (-1074) else if rungB x < 9218868437227405312 then Ieee.Datum.number (sgnB x) (2 ^ 52 + rungB x % 2 ^ 52) (-1074 + ((rungB x / 2 ^ 52 - 1 : Nat) : Int)) else if rungB x = 9218868437227405312 then Ieee.Datum.infinity (sgnB x) else .nan (sgnB x) (rungB x - 9218868437227405312)) = _
  by_cases h1 : rungB x < 2 ^ 52
  · rw [if_pos h1, if_pos h1, Nat.div_eq_of_lt h1]
    rfl
  · rw [if_neg h1, if_neg h1, if_pos h]
theorem read_inf {x : Nat} (h : rungB x = 9218868437227405312) : FloatKind.f64.format.read x = .infinity (sgnB x) := by
  have e1 : FloatKind.f64.format.signWeight = 2 ^ 63 := by decide
  have e2 : FloatKind.f64.format.binade = 2 ^ 52 := by decide
  have e3 : FloatKind.f64.format.infRung = 9218868437227405312 := by decide
  unfold Ieee.Format.read
  rw [e1, e2, e3]
  show (if rungB x < 2 ^ 52 then Ieee.Datum.number (sgnB x) (rungB x) _ else if rungB x < 9218868437227405312 then Ieee.Datum.number (sgnB x) (2 ^ 52 + rungB x % 2 ^ 52) _ else if rungB x = 9218868437227405312 then Ieee.Datum.infinity (sgnB x) else .nan (sgnB x) (rungB x - 9218868437227405312)) = _
  rw [if_neg (by omega), if_neg (by omega), if_pos h]
theorem read_nan {x : Nat} (h : 9218868437227405312 < rungB x) : ∃ n, FloatKind.f64.format.read x = .nan (sgnB x) n := by
  have e1 : FloatKind.f64.format.signWeight = 2 ^ 63 := by decide
  have e2 : FloatKind.f64.format.binade = 2 ^ 52 := by decide
  have e3 : FloatKind.f64.format.infRung = 9218868437227405312 := by decide
  unfold Ieee.Format.read
  rw [e1, e2, e3]
  refine ⟨rungB x - 9218868437227405312, ?_⟩
  show (if rungB x < 2 ^ 52 then Ieee.Datum.number (sgnB x) (rungB x) _ else if rungB x < 9218868437227405312 then Ieee.Datum.number (sgnB x) (2 ^ 52 + rungB x % 2 ^ 52) _ else if rungB x = 9218868437227405312 then Ieee.Datum.infinity (sgnB x) else .nan (sgnB x) (rungB x - 9218868437227405312)) = _
  rw [if_neg (by omega), if_neg (by omega), if_neg (by omega)]

theorem fEq_num {x : Nat} : fEq x x = true ↔ isNum x := by
  unfold isNum fEq Ieee.Format.order
  rcases Nat.lt_trichotomy (rungB x) 9218868437227405312 with h | h | h
  · rw [read_num h]
    simp only [Ieee.Datum.order, beq_iff_eq, Option.some.injEq]
    constructor
    · intro _; omega
    · intro _; exact Int.compare_eq_eq.2 rfl
  · rw [read_inf h]
    simp only [Ieee.Datum.order, beq_iff_eq, Option.some.injEq]
    constructor
    · intro _; omega
    · intro _; exact Nat.compare_eq_eq.2 rfl
  · obtain ⟨n, hn⟩ := read_nan h
    rw [hn]
    simp only [Ieee.Datum.order]
    constructor
    · intro h; cases h
    · intro _; omega

theorem shl_min (m a b : Nat) (hb : b ≤ a) : m <<< a = (m <<< (a - b)) * 2 ^ b := by
  rw [Nat.shiftLeft_eq, Nat.shiftLeft_eq, Nat.mul_assoc, ← Nat.pow_add]
  congr 2
  omega

theorem signed_eq {s t : Bool} {m n i j : Nat} : Ieee.signed s m ((-1074 + (i : Int)) - min (-1074 + (i : Int)) (-1074 + (j : Int))).toNat = Ieee.signed t n ((-1074 + (j : Int)) - min (-1074 + (i : Int)) (-1074 + (j : Int))).toNat ↔ m <<< i = n <<< j ∧ (s = t ∨ m <<< i = 0) := by
  have hi : ((-1074 + (i : Int)) - min (-1074 + (i : Int)) (-1074 + (j : Int))).toNat = i - min i j := by omega
  have hj : ((-1074 + (j : Int)) - min (-1074 + (i : Int)) (-1074 + (j : Int))).toNat = j - min i j := by omega
  rw [hi, hj]
  have h1 := shl_min m i (min i j) (Nat.min_le_left _ _)
  have h2 := shl_min n j (min i j) (Nat.min_le_right _ _)
  have hp : 0 < 2 ^ min i j := Nat.two_pow_pos _
  rw [h1, h2]
  clear h1 h2 hi hj
  unfold Ieee.signed
  generalize m <<< (i - min i j) = A
  generalize n <<< (j - min i j) = B
  generalize 2 ^ min i j = P at hp
  have hAB : A * P = B * P ↔ A = B := ⟨fun h => Nat.eq_of_mul_eq_mul_right hp h, fun h => by rw [h]⟩
  have hA0 : A * P = 0 ↔ A = 0 := ⟨fun h => by
    rcases Nat.mul_eq_zero.1 h with h | h
    · exact h
    · omega, fun h => by rw [h, Nat.zero_mul]⟩
  rw [hAB, hA0]
  clear hAB hA0 hp
  cases s <;> cases t <;> simp <;> omega

theorem fEq_iff {x y : Nat} (hx : x < 2 ^ 64) (hy : y < 2 ^ 64) (hnx : isNum x) (hny : isNum y) : fEq x y = true ↔ x = y ∨ (rungB x = 0 ∧ rungB y = 0) := by
  have hxr : x = (if sgnB x then 2 ^ 63 else 0) + rungB x := by
    unfold sgnB rungB
    split
    · rename_i h; rw [beq_iff_eq] at h; omega
    · rename_i h; rw [beq_iff_eq] at h; omega
  have hyr : y = (if sgnB y then 2 ^ 63 else 0) + rungB y := by
    unfold sgnB rungB
    split
    · rename_i h; rw [beq_iff_eq] at h; omega
    · rename_i h; rw [beq_iff_eq] at h; omega
  have hxy : x = y ↔ sgnB x = sgnB y ∧ rungB x = rungB y := by
    constructor
    · intro h; subst h; exact ⟨rfl, rfl⟩
    · rintro ⟨h1, h2⟩
      rw [hxr, hyr, h1, h2]
  unfold isNum at hnx hny
  rw [hxy]
  unfold fEq Ieee.Format.order
  rcases Nat.lt_or_eq_of_le hnx with h1 | h1 <;> rcases Nat.lt_or_eq_of_le hny with h2 | h2
  · rw [read_num h1, read_num h2]
    simp only [Ieee.Datum.order, beq_iff_eq, Option.some.injEq]
    rw [Int.compare_eq_eq, signed_eq]
    show rungV (rungB x) = rungV (rungB y) ∧ (sgnB x = sgnB y ∨ rungV (rungB x) = 0) ↔ _
    rw [rungV_zero]
    constructor
    · rintro ⟨h3, h4 | h4⟩
      · exact .inl ⟨h4, rungV_inj h3⟩
      · exact .inr ⟨h4, by rw [← rungV_inj h3]; exact h4⟩
    · rintro (⟨h3, h4⟩ | ⟨h3, h4⟩)
      · exact ⟨by rw [h4], .inl h3⟩
      · exact ⟨by rw [h3, h4], .inr h3⟩
  · rw [read_num h1, read_inf h2]
    simp only [Ieee.Datum.order, beq_iff_eq, Option.some.injEq]
    constructor
    · intro h; cases hs : sgnB y <;> rw [hs] at h <;> cases h
    · rintro (⟨_, h⟩ | ⟨_, h⟩) <;> omega
  · rw [read_inf h1, read_num h2]
    simp only [Ieee.Datum.order, beq_iff_eq, Option.some.injEq]
    constructor
    · intro h; cases hs : sgnB x <;> rw [hs] at h <;> cases h
    · rintro (⟨_, h⟩ | ⟨h, _⟩) <;> omega
  · rw [read_inf h1, read_inf h2]
    simp only [Ieee.Datum.order, beq_iff_eq, Option.some.injEq]
    rw [Nat.compare_eq_eq]
    constructor
    · intro h
      refine .inl ⟨?_, by omega⟩
      cases hs : sgnB x <;> cases ht : sgnB y <;> rw [hs, ht] at h <;> first | rfl | exact absurd h (by decide)
    · rintro (⟨h, _⟩ | ⟨h, _⟩)
      · rw [h]
      · omega

theorem fEq_zero {x : Nat} (hx : x < 2 ^ 64) (hn : isNum x) : fEq x 0 = true ↔ rungB x = 0 := by
  rw [fEq_iff hx (by decide) hn (by unfold isNum rungB; decide)]
  have h0 : rungB 0 = 0 := by decide
  constructor
  · rintro (h | h)
    · rw [h]; exact h0
    · exact h.1
  · intro h; exact .inr ⟨h, h0⟩

theorem canon_num2 {x : Nat} (hx : x < 2 ^ 64) (hn : isNum x) : canonB x = if rungB x = 0 then 0 else x := by
  unfold canonB
  rw [if_pos (fEq_num.2 hn)]
  by_cases h : rungB x = 0
  · rw [if_pos h, if_pos ((fEq_zero hx hn).2 h)]
  · rw [if_neg h, if_neg (fun h' => h ((fEq_zero hx hn).1 h'))]
end Go.Proofs.YtloplmaekonenaaGreatDoor

namespace Go.Proofs.YtloplmaekonenaaGreatDoor
set_option maxRecDepth 20000
open Go.RowKit

theorem less_cons (a b : UInt8) (s t : List UInt8) : Op.bytesLess (a :: s) (b :: t) = if a < b then true else if b < a then false else Op.bytesLess s t := by
  rw [Op.bytesLess]
  by_cases h1 : a < b
  · simp [h1]
  · by_cases h2 : b < a
    · have h3 : (a == b) = false := by
        rw [beq_eq_false_iff_ne]
        rintro rfl
        exact h1 h2
      simp [h1, h2, h3]
    · have h3 : a = b := UInt8.toNat.inj (by
        have h4 : ¬ a.toNat < b.toNat := h1
        have h5 : ¬ b.toNat < a.toNat := h2
        omega)
      simp [h3]
theorem less_trans : ∀ a b c : List UInt8, Op.bytesLess a b = true → Op.bytesLess b c = true → Op.bytesLess a c = true
  | _, [], [], _, h => by simp [Op.bytesLess] at h
  | [], [], _ :: _, h, _ => by simp [Op.bytesLess] at h
  | _ :: _, [], _ :: _, h, _ => by simp [Op.bytesLess] at h
  | _, _ :: _, [], _, h => by simp [Op.bytesLess] at h
  | [], _ :: _, _ :: _, _, _ => by simp [Op.bytesLess]
  | a :: s, b :: t, c :: u, h, k => by
    rw [less_cons] at h k ⊢
    have e : ∀ x y : UInt8, x < y ↔ x.toNat < y.toNat := fun _ _ => Iff.rfl
    by_cases h1 : a < b
    · by_cases k1 : b < c
      · rw [if_pos (by rw [e] at *; omega)]
      · by_cases k2 : c < b
        · rw [if_neg k1, if_pos k2] at k; cases k
        · rw [if_pos (by rw [e] at *; omega)]
    · by_cases h2 : b < a
      · rw [if_neg h1, if_pos h2] at h; cases h
      · rw [if_neg h1, if_neg h2] at h
        by_cases k1 : b < c
        · rw [if_pos (by rw [e] at *; omega)]
        · by_cases k2 : c < b
          · rw [if_neg k1, if_pos k2] at k; cases k
          · rw [if_neg k1, if_neg k2] at k
            rw [if_neg (by rw [e] at *; omega), if_neg (by rw [e] at *; omega)]
            exact less_trans s t u h k
theorem cmps_at (a b : ByteArray) (w : World) : Calls Tryz.prog 132 #[.string a, .string b] w fun e w' => e = .returned (.int .i64 (Lib.compareBytes a.data.toList b.data.toList)) ∧ w' = w := by
  go_enter Tryz.func132, Tryz.ntmps132
  go_wp2
  rw [run_callFunc_extern Tryz.func163 (by kernel_rfl) (by kernel_rfl) (by kernel_rfl) (e := Extern.BytealgCompare.compare) (by kernel_rfl), Lib.run_compareString]
  simp only [Result.andThen]
  rw [Oper.upon_value]
  go_wp2
  go_ret
  exact ⟨rfl, rfl⟩
theorem cmp_at (a b : ByteArray) (w : World) : Calls Tryz.prog 92 #[.string a, .string b] w fun e w' => e = .returned (.int .i64 (Lib.compareBytes a.data.toList b.data.toList)) ∧ w' = w := by
  go_enter Tryz.func92, Tryz.ntmps92
  go_wp2_with fail
  refine (cmps_at a b w).mono ?_
  rintro e w' ⟨rfl, rfl⟩
  go_wp2
  go_ret
  exact ⟨rfl, rfl⟩
end Go.Proofs.YtloplmaekonenaaGreatDoor
