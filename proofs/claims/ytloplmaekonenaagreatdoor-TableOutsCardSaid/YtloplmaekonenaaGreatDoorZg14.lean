/-
  Floats as bits: how order and keys agree.
  The order of texts, and strings.Compare.
  strings.Cut at '/'.
-/
import Derived.Test.YtloplmaekonenaaGreatDoorZg2
import Derived.Test.YtloplmaekonenaaGreatDoorZg3
import Derived.Lib.Bytealg
import Derived.Test.YtloplmaekonenaaGreatDoorZg10
namespace Go.Proofs.YtloplmaekonenaaGreatDoor
set_option maxRecDepth 20000
open Go.RowKit

theorem datum_swap (a b : Ieee.Datum) : b.order a = (a.order b).map Ordering.swap := by
  cases a <;> cases b
  all_goals simp only [Ieee.Datum.order, Option.map_none, Option.map_some, Option.some.injEq]
  · rename_i s m i t n j
    rw [Int.min_comm j i, ← Int.compare_swap]
  · rename_i s m i t
    cases t <;> rfl
  · rename_i s t n j
    cases s <;> rfl
  · rename_i s t
    cases s <;> cases t <;> rfl
theorem order_swap (f : Ieee.Format) (x y : Nat) : f.order y x = (f.order x y).map Ordering.swap := datum_swap _ _
theorem gt_lt (x y : Nat) : (FloatKind.f64.format.order x y == some .gt) = fLt y x := by
  unfold fLt
  rw [order_swap _ x y]
  cases FloatKind.f64.format.order x y with
  | none => rfl
  | some o => cases o <;> rfl
/-- A rung's magnitude, in units of the least one. -/
def rungV (r : Nat) : Nat := (if r < 2 ^ 52 then r else 2 ^ 52 + r % 2 ^ 52) <<< (r / 2 ^ 52 - 1)
theorem rungV_lt {r s : Nat} (h : r < s) : rungV r < rungV s := by
  unfold rungV
  rw [Nat.shiftLeft_eq, Nat.shiftLeft_eq]
  have hr := Nat.div_add_mod r (2 ^ 52)
  have hs := Nat.div_add_mod s (2 ^ 52)
  have hrm := Nat.mod_lt r (show 0 < 2 ^ 52 by decide)
  have hsm := Nat.mod_lt s (show 0 < 2 ^ 52 by decide)
  have hde : r / 2 ^ 52 ≤ s / 2 ^ 52 := Nat.div_le_div_right (by omega)
  generalize r / 2 ^ 52 = e at *
  generalize s / 2 ^ 52 = d at *
  generalize r % 2 ^ 52 = p at *
  generalize s % 2 ^ 52 = q at *
  rcases Nat.lt_or_eq_of_le hde with hlt | rfl
  · have h2 : ¬ s < 2 ^ 52 := by omega
    rw [if_neg h2]
    have hp : 2 ^ (e - 1) ≤ 2 ^ (d - 1) := Nat.pow_le_pow_right (by decide) (by omega)
    by_cases he : e = 0
    · subst he
      have h1 : r < 2 ^ 52 := by omega
      rw [if_pos h1]
      have h3 : 1 ≤ 2 ^ (d - 1) := Nat.one_le_two_pow
      have h4 : r * 2 ^ (0 - 1) = r := by simp
      rw [h4]
      calc r < 2 ^ 52 := h1
        _ = 2 ^ 52 * 1 := by rw [Nat.mul_one]
        _ ≤ (2 ^ 52 + q) * 2 ^ (d - 1) := Nat.mul_le_mul (by omega) h3
    · have h1 : ¬ r < 2 ^ 52 := by omega
      rw [if_neg h1]
      have h3 : 2 ^ (d - 1) = 2 ^ (d - 1 - e) * 2 ^ e := by rw [← Nat.pow_add]; congr 1; omega
      have h4 : 2 ^ e = 2 * 2 ^ (e - 1) := by
        conv => lhs; rw [show e = (e - 1) + 1 by omega, Nat.pow_succ]
        rw [Nat.mul_comm]
      have h5 : 1 ≤ 2 ^ (d - 1 - e) := Nat.one_le_two_pow
      have h6 : 1 ≤ 2 ^ (e - 1) := Nat.one_le_two_pow
      have h7 : 2 * 2 ^ (e - 1) ≤ 2 ^ (d - 1) := by
        rw [h3, h4]
        calc 2 * 2 ^ (e - 1) = 1 * (2 * 2 ^ (e - 1)) := by rw [Nat.one_mul]
          _ ≤ 2 ^ (d - 1 - e) * (2 * 2 ^ (e - 1)) := Nat.mul_le_mul_right _ h5
      calc (2 ^ 52 + p) * 2 ^ (e - 1) < (2 ^ 52 * 2) * 2 ^ (e - 1) := Nat.mul_lt_mul_of_pos_right (by omega) (by omega)
        _ = 2 ^ 52 * (2 * 2 ^ (e - 1)) := by rw [Nat.mul_assoc]
        _ ≤ 2 ^ 52 * 2 ^ (d - 1) := Nat.mul_le_mul_left _ h7
        _ ≤ (2 ^ 52 + q) * 2 ^ (d - 1) := Nat.mul_le_mul_right _ (by omega)
  · have h6 : 0 < 2 ^ (e - 1) := Nat.two_pow_pos _
    refine Nat.mul_lt_mul_of_pos_right ?_ h6
    by_cases he : e = 0
    · subst he
      rw [if_pos (by omega), if_pos (by omega)]
      exact h
    · rw [if_neg (by omega), if_neg (by omega)]
      omega
theorem rungV_inj {r s : Nat} (h : rungV r = rungV s) : r = s := by
  rcases Nat.lt_trichotomy r s with h1 | h1 | h1
  · have := rungV_lt h1; omega
  · exact h1
  · have := rungV_lt h1; omega
theorem rungV_zero {r : Nat} : rungV r = 0 ↔ r = 0 := ⟨fun h => rungV_inj (h.trans (by decide)), fun h => by subst h; decide⟩

def sgnB (x : Nat) : Bool := x / 2 ^ 63 % 2 == 1
def rungB (x : Nat) : Nat := x % 2 ^ 63
def isNum (x : Nat) : Prop := rungB x ≤ 9218868437227405312

theorem read_num {x : Nat} (h : rungB x < 9218868437227405312) :
    FloatKind.f64.format.read x = .number (sgnB x) (if rungB x < 2 ^ 52 then rungB x else 2 ^ 52 + rungB x % 2 ^ 52) (-1074 + (rungB x / 2 ^ 52 - 1 : Nat)) := by
  have e1 : FloatKind.f64.format.signWeight = 2 ^ 63 := by decide
  have e2 : FloatKind.f64.format.binade = 2 ^ 52 := by decide
  have e3 : FloatKind.f64.format.infRung = 9218868437227405312 := by decide
  have e4 : FloatKind.f64.format.leastPlace = -1074 := by decide
  unfold Ieee.Format.read
  rw [e1, e2, e3, e4]
  show (if rungB x < 2 ^ 52 then Ieee.Datum.number (sgnB x) (rungB x) (-1074) else if rungB x < 9218868437227405312 then Ieee.Datum.number (sgnB x) (2 ^ 52 + rungB x % 2 ^ 52) (-1074 + ((rungB x / 2 ^ 52 - 1 : Nat) : Int)) else if rungB x = 9218868437227405312 then Ieee.Datum.infinity (sgnB x) else .nan (sgnB x) (rungB x - 9218868437227405312)) = _
  by_cases h1 : rungB x < 2 ^ 52
  · rw [if_pos h1, if_pos h1, Nat.div_eq_of_lt h1]
    rfl
  · rw [if_neg h1, if_neg h1, if_pos h]
theorem read_inf {x : Nat} (h : rungB x = 9218868437227405312) : FloatKind.f64.format.read x = .infinity (sgnB x) := by
  have e1 : FloatKind.f64.format.signWeight = 2 ^ 63 := by decide
  have e2 : FloatKind.f64.format.binade = 2 ^ 52 := by decide
  have e3 : FloatKind.f64.format.infRung = 9218868437227405312 := by decide
  unfold Ieee.Format.read
  rw [e1, e2, e3]
  show (if rungB x < 2 ^ 52 then Ieee.Datum.number (sgnB x) (rungB x) _ else if rungB x < 9218868437227405312 then Ieee.Datum.number (sgnB x) (2 ^ 52 + rungB x % 2 ^ 52) _ else if rungB x = 9218868437227405312 then Ieee.Datum.infinity (sgnB x) else .nan (sgnB x) (rungB x - 9218868437227405312)) = _
  rw [if_neg (by omega), if_neg (by omega), if_pos h]
theorem read_nan {x : Nat} (h : 9218868437227405312 < rungB x) : ∃ n, FloatKind.f64.format.read x = .nan (sgnB x) n := by
  have e1 : FloatKind.f64.format.signWeight = 2 ^ 63 := by decide
  have e2 : FloatKind.f64.format.binade = 2 ^ 52 := by decide
  have e3 : FloatKind.f64.format.infRung = 9218868437227405312 := by decide
  unfold Ieee.Format.read
  rw [e1, e2, e3]
  refine ⟨rungB x - 9218868437227405312, ?_⟩
  show (if rungB x < 2 ^ 52 then Ieee.Datum.number (sgnB x) (rungB x) _ else if rungB x < 9218868437227405312 then Ieee.Datum.number (sgnB x) (2 ^ 52 + rungB x % 2 ^ 52) _ else if rungB x = 9218868437227405312 then Ieee.Datum.infinity (sgnB x) else .nan (sgnB x) (rungB x - 9218868437227405312)) = _
  rw [if_neg (by omega), if_neg (by omega), if_neg (by omega)]

theorem fEq_num {x : Nat} : fEq x x = true ↔ isNum x := by
  unfold isNum fEq Ieee.Format.order
  rcases Nat.lt_trichotomy (rungB x) 9218868437227405312 with h | h | h
  · rw [read_num h]
    simp only [Ieee.Datum.order, beq_iff_eq, Option.some.injEq]
    constructor
    · intro _; omega
    · intro _; exact Int.compare_eq_eq.2 rfl
  · rw [read_inf h]
    simp only [Ieee.Datum.order, beq_iff_eq, Option.some.injEq]
    constructor
    · intro _; omega
    · intro _; exact Nat.compare_eq_eq.2 rfl
  · obtain ⟨n, hn⟩ := read_nan h
    rw [hn]
    simp only [Ieee.Datum.order]
    constructor
    · intro h; cases h
    · intro _; omega

theorem shl_min (m a b : Nat) (hb : b ≤ a) : m <<< a = (m <<< (a - b)) * 2 ^ b := by
  rw [Nat.shiftLeft_eq, Nat.shiftLeft_eq, Nat.mul_assoc, ← Nat.pow_add]
  congr 2
  omega

theorem signed_eq {s t : Bool} {m n i j : Nat} : Ieee.signed s m ((-1074 + (i : Int)) - min (-1074 + (i : Int)) (-1074 + (j : Int))).toNat = Ieee.signed t n ((-1074 + (j : Int)) - min (-1074 + (i : Int)) (-1074 + (j : Int))).toNat ↔ m <<< i = n <<< j ∧ (s = t ∨ m <<< i = 0) := by
  have hi : ((-1074 + (i : Int)) - min (-1074 + (i : Int)) (-1074 + (j : Int))).toNat = i - min i j := by omega
  have hj : ((-1074 + (j : Int)) - min (-1074 + (i : Int)) (-1074 + (j : Int))).toNat = j - min i j := by omega
  rw [hi, hj]
  have h1 := shl_min m i (min i j) (Nat.min_le_left _ _)
  have h2 := shl_min n j (min i j) (Nat.min_le_right _ _)
  have hp : 0 < 2 ^ min i j := Nat.two_pow_pos _
  rw [h1, h2]
  clear h1 h2 hi hj
  unfold Ieee.signed
  generalize m <<< (i - min i j) = A
  generalize n <<< (j - min i j) = B
  generalize 2 ^ min i j = P at hp
  have hAB : A * P = B * P ↔ A = B := ⟨fun h => Nat.eq_of_mul_eq_mul_right hp h, fun h => by rw [h]⟩
  have hA0 : A * P = 0 ↔ A = 0 := ⟨fun h => by
    rcases Nat.mul_eq_zero.1 h with h | h
    · exact h
    · omega, fun h => by rw [h, Nat.zero_mul]⟩
  rw [hAB, hA0]
  clear hAB hA0 hp
  cases s <;> cases t <;> simp <;> omega

theorem fEq_iff {x y : Nat} (hx : x < 2 ^ 64) (hy : y < 2 ^ 64) (hnx : isNum x) (hny : isNum y) : fEq x y = true ↔ x = y ∨ (rungB x = 0 ∧ rungB y = 0) := by
  have hxr : x = (if sgnB x then 2 ^ 63 else 0) + rungB x := by
    unfold sgnB rungB
    split
    · rename_i h; rw [beq_iff_eq] at h; omega
    · rename_i h; rw [beq_iff_eq] at h; omega
  have hyr : y = (if sgnB y then 2 ^ 63 else 0) + rungB y := by
    unfold sgnB rungB
    split
    · rename_i h; rw [beq_iff_eq] at h; omega
    · rename_i h; rw [beq_iff_eq] at h; omega
  have hxy : x = y ↔ sgnB x = sgnB y ∧ rungB x = rungB y := by
    constructor
    · intro h; subst h; exact ⟨rfl, rfl⟩
    · rintro ⟨h1, h2⟩
      rw [hxr, hyr, h1, h2]
  unfold isNum at hnx hny
  rw [hxy]
  unfold fEq Ieee.Format.order
  rcases Nat.lt_or_eq_of_le hnx with h1 | h1 <;> rcases Nat.lt_or_eq_of_le hny with h2 | h2
  · rw [read_num h1, read_num h2]
    simp only [Ieee.Datum.order, beq_iff_eq, Option.some.injEq]
    rw [Int.compare_eq_eq, signed_eq]
    show rungV (rungB x) = rungV (rungB y) ∧ (sgnB x = sgnB y ∨ rungV (rungB x) = 0) ↔ _
    rw [rungV_zero]
    constructor
    · rintro ⟨h3, h4 | h4⟩
      · exact .inl ⟨h4, rungV_inj h3⟩
      · exact .inr ⟨h4, by rw [← rungV_inj h3]; exact h4⟩
    · rintro (⟨h3, h4⟩ | ⟨h3, h4⟩)
      · exact ⟨by rw [h4], .inl h3⟩
      · exact ⟨by rw [h3, h4], .inr h3⟩
  · rw [read_num h1, read_inf h2]
    simp only [Ieee.Datum.order, beq_iff_eq, Option.some.injEq]
    constructor
    · intro h; cases hs : sgnB y <;> rw [hs] at h <;> cases h
    · rintro (⟨_, h⟩ | ⟨_, h⟩) <;> omega
  · rw [read_inf h1, read_num h2]
    simp only [Ieee.Datum.order, beq_iff_eq, Option.some.injEq]
    constructor
    · intro h; cases hs : sgnB x <;> rw [hs] at h <;> cases h
    · rintro (⟨_, h⟩ | ⟨h, _⟩) <;> omega
  · rw [read_inf h1, read_inf h2]
    simp only [Ieee.Datum.order, beq_iff_eq, Option.some.injEq]
    rw [Nat.compare_eq_eq]
    constructor
    · intro h
      refine .inl ⟨?_, by omega⟩
      cases hs : sgnB x <;> cases ht : sgnB y <;> rw [hs, ht] at h <;> first | rfl | exact absurd h (by decide)
    · rintro (⟨h, _⟩ | ⟨h, _⟩)
      · rw [h]
      · omega

theorem fEq_zero {x : Nat} (hx : x < 2 ^ 64) (hn : isNum x) : fEq x 0 = true ↔ rungB x = 0 := by
  rw [fEq_iff hx (by decide) hn (by unfold isNum rungB; decide)]
  have h0 : rungB 0 = 0 := by decide
  constructor
  · rintro (h | h)
    · rw [h]; exact h0
    · exact h.1
  · intro h; exact .inr ⟨h, h0⟩

theorem canon_num2 {x : Nat} (hx : x < 2 ^ 64) (hn : isNum x) : canonB x = if rungB x = 0 then 0 else x := by
  unfold canonB
  rw [if_pos (fEq_num.2 hn)]
  by_cases h : rungB x = 0
  · rw [if_pos h, if_pos ((fEq_zero hx hn).2 h)]
  · rw [if_neg h, if_neg (fun h' => h ((fEq_zero hx hn).1 h'))]
theorem key_inj {x y : Nat} (hx : x < 2 ^ 64) (hy : y < 2 ^ 64) (hnx : isNum x) (hny : isNum y) : keyB x = keyB y ↔ canonB x = canonB y := by
  have hc : ∀ {x : Nat}, x < 2 ^ 64 → isNum x → canonB x < 2 ^ 64 ∧ isNum (canonB x) := fun {x} hx hn => by
    rw [canon_num2 hx hn]
    split
    · exact ⟨by decide, by unfold isNum rungB; decide⟩
    · exact ⟨hx, hn⟩
  obtain ⟨h1, h2⟩ := hc hx hnx
  obtain ⟨h3, h4⟩ := hc hy hny
  unfold keyB
  rw [if_pos (fEq_num.2 h2), if_pos (fEq_num.2 h4)]
  constructor
  · intro h
    split at h <;> split at h <;> omega
  · intro h; rw [h]
/-- Of two numbers: alike, if equal. -/
theorem key_eq {x y : Nat} (hx : x < 2 ^ 64) (hy : y < 2 ^ 64) (hnx : fEq x x = true) (hny : fEq y y = true) : (keyB x == keyB y) = fEq x y := by
  rw [fEq_num] at hnx hny
  rw [Bool.eq_iff_iff, beq_iff_eq, key_inj hx hy hnx hny, fEq_iff hx hy hnx hny, canon_num2 hx hnx, canon_num2 hy hny]
  constructor
  · intro h
    split at h <;> split at h
    · exact .inr ⟨by assumption, by assumption⟩
    · rename_i h1 h2; subst h; exact absurd (by decide) h2
    · rename_i h1 h2; subst h; exact absurd (by decide) h1
    · exact .inl h
  · rintro (h | ⟨h, h'⟩)
    · rw [h]
    · rw [if_pos h, if_pos h']
/-- Of two numbers: equal, if none is below the other one. -/
theorem eq_lt {x y : Nat} (hnx : fEq x x = true) (hny : fEq y y = true) : fEq x y = (!fLt x y && !fLt y x) := by
  have hno : FloatKind.f64.format.order x y ≠ none := by
    rw [fEq_num] at hnx hny
    unfold isNum at hnx hny
    unfold Ieee.Format.order
    rcases Nat.lt_or_eq_of_le hnx with h1 | h1 <;> rcases Nat.lt_or_eq_of_le hny with h2 | h2
    · rw [read_num h1, read_num h2]; simp [Ieee.Datum.order]
    · rw [read_num h1, read_inf h2]; simp [Ieee.Datum.order]
    · rw [read_inf h1, read_num h2]; simp [Ieee.Datum.order]
    · rw [read_inf h1, read_inf h2]; simp [Ieee.Datum.order]
  unfold fEq fLt
  rw [order_swap _ x y]
  cases h : FloatKind.f64.format.order x y with
  | none => exact absurd h hno
  | some o => cases o <;> rfl
end Go.Proofs.YtloplmaekonenaaGreatDoor

namespace Go.Proofs.YtloplmaekonenaaGreatDoor
set_option maxRecDepth 20000
open Go.RowKit

theorem less_cons (a b : UInt8) (s t : List UInt8) : Op.bytesLess (a :: s) (b :: t) = if a < b then true else if b < a then false else Op.bytesLess s t := by
  rw [Op.bytesLess]
  by_cases h1 : a < b
  · simp [h1]
  · by_cases h2 : b < a
    · have h3 : (a == b) = false := by
        rw [beq_eq_false_iff_ne]
        rintro rfl
        exact h1 h2
      simp [h1, h2, h3]
    · have h3 : a = b := UInt8.toNat.inj (by
        have h4 : ¬ a.toNat < b.toNat := h1
        have h5 : ¬ b.toNat < a.toNat := h2
        omega)
      simp [h3]
theorem cmp_cons (a b : UInt8) (s t : List UInt8) : Lib.compareBytes (a :: s) (b :: t) = if a < b then -1 else if b < a then 1 else Lib.compareBytes s t := by
  rw [Lib.compareBytes]
theorem cmp_less : ∀ a b : List UInt8, (Lib.compareBytes a b < 0) ↔ Op.bytesLess a b = true
  | [], [] => by decide
  | [], b :: t => by simp [Lib.compareBytes, Op.bytesLess]
  | a :: s, [] => by simp [Lib.compareBytes, Op.bytesLess]
  | a :: s, b :: t => by
    rw [less_cons, cmp_cons]
    split
    · simp
    · split
      · simp
      · exact cmp_less s t
theorem cmp_zero : ∀ a b : List UInt8, (Lib.compareBytes a b = 0) ↔ a = b
  | [], [] => by decide
  | [], b :: t => by simp [Lib.compareBytes]
  | a :: s, [] => by simp [Lib.compareBytes]
  | a :: s, b :: t => by
    rw [cmp_cons]
    split
    · rename_i h
      constructor
      · intro h'; cases h'
      · intro h'; cases h'; exact absurd h (by simp)
    · rename_i h
      split
      · rename_i h1
        constructor
        · intro h'; cases h'
        · intro h'; cases h'; exact absurd h1 h
      · rename_i h1
        have hab : a = b := by
          have h2 : ¬ a.toNat < b.toNat := h
          have h3 : ¬ b.toNat < a.toNat := h1
          exact UInt8.toNat.inj (by omega)
        subst hab
        rw [cmp_zero s t]
        simp
theorem less_trans : ∀ a b c : List UInt8, Op.bytesLess a b = true → Op.bytesLess b c = true → Op.bytesLess a c = true
  | _, [], [], _, h => by simp [Op.bytesLess] at h
  | [], [], _ :: _, h, _ => by simp [Op.bytesLess] at h
  | _ :: _, [], _ :: _, h, _ => by simp [Op.bytesLess] at h
  | _, _ :: _, [], _, h => by simp [Op.bytesLess] at h
  | [], _ :: _, _ :: _, _, _ => by simp [Op.bytesLess]
  | a :: s, b :: t, c :: u, h, k => by
    rw [less_cons] at h k ⊢
    have e : ∀ x y : UInt8, x < y ↔ x.toNat < y.toNat := fun _ _ => Iff.rfl
    by_cases h1 : a < b
    · by_cases k1 : b < c
      · rw [if_pos (by rw [e] at *; omega)]
      · by_cases k2 : c < b
        · rw [if_neg k1, if_pos k2] at k; cases k
        · rw [if_pos (by rw [e] at *; omega)]
    · by_cases h2 : b < a
      · rw [if_neg h1, if_pos h2] at h; cases h
      · rw [if_neg h1, if_neg h2] at h
        by_cases k1 : b < c
        · rw [if_pos (by rw [e] at *; omega)]
        · by_cases k2 : c < b
          · rw [if_neg k1, if_pos k2] at k; cases k
          · rw [if_neg k1, if_neg k2] at k
            rw [if_neg (by rw [e] at *; omega), if_neg (by rw [e] at *; omega)]
            exact less_trans s t u h k
theorem less_irrefl : ∀ a : List UInt8, Op.bytesLess a a = false
  | [] => rfl
  | a :: s => by
    have e : ¬ a < a := by simp
    rw [less_cons, if_neg e, if_neg e, less_irrefl s]
theorem less_total (a b : List UInt8) (h : Op.bytesLess a b = false) (hne : a ≠ b) : Op.bytesLess b a = true := by
  induction a generalizing b with
  | nil => cases b with
    | nil => exact absurd rfl hne
    | cons b t => simp [Op.bytesLess] at h
  | cons a s ih => cases b with
    | nil => simp [Op.bytesLess]
    | cons b t =>
      rw [less_cons] at h ⊢
      by_cases h1 : a < b
      · rw [if_pos h1] at h; cases h
      · rw [if_neg h1] at h
        by_cases h2 : b < a
        · rw [if_pos h2]
        · rw [if_neg h2] at h
          rw [if_neg h2, if_neg h1]
          have hab : a = b := by
            have h2 : ¬ b.toNat < a.toNat := h2
            have h3 : ¬ a.toNat < b.toNat := h1
            exact UInt8.toNat.inj (by omega)
          subst hab
          exact ih t h (fun h => hne (by rw [h]))

theorem cmps_at (a b : ByteArray) (w : World) : Calls Tryz.prog 132 #[.string a, .string b] w fun e w' => e = .returned (.int .i64 (Lib.compareBytes a.data.toList b.data.toList)) ∧ w' = w := by
  go_enter Tryz.func132, Tryz.ntmps132
  go_wp2
  rw [run_callFunc_extern Tryz.func163 (by kernel_rfl) (by kernel_rfl) (by kernel_rfl) (e := Extern.BytealgCompare.compare) (by kernel_rfl), Lib.run_compareString]
  simp only [Result.andThen]
  rw [Oper.upon_value]
  go_wp2
  go_ret
  exact ⟨rfl, rfl⟩
theorem cmp_at (a b : ByteArray) (w : World) : Calls Tryz.prog 92 #[.string a, .string b] w fun e w' => e = .returned (.int .i64 (Lib.compareBytes a.data.toList b.data.toList)) ∧ w' = w := by
  go_enter Tryz.func92, Tryz.ntmps92
  go_wp2_with fail
  refine (cmps_at a b w).mono ?_
  rintro e w' ⟨rfl, rfl⟩
  go_wp2
  go_ret
  exact ⟨rfl, rfl⟩
end Go.Proofs.YtloplmaekonenaaGreatDoor

namespace Go.Proofs.YtloplmaekonenaaGreatDoor
set_option maxRecDepth 20000
open Go.RowKit

theorem idxs_at (s : ByteArray) (w : World) : Calls Tryz.prog 186 #[.string s, .int .u8 47] w fun e w' => e = .returned (.int .i64 (Lib.indexByte s.data.toList 47)) ∧ w' = w := by
  go_enter Tryz.func186, Tryz.ntmps186
  go_wp2
  rw [run_callFunc_extern Tryz.func216 (by kernel_rfl) (by kernel_rfl) (by kernel_rfl) (e := Extern.BytealgIndexByte.indexByte) (by kernel_rfl), Lib.run_indexByteString]
  simp only [Result.andThen]
  rw [Oper.upon_value]
  go_wp2
  go_ret
  exact ⟨rfl, rfl⟩

set_option maxHeartbeats 1000000 in
set_option maxRecDepth 20000 in
theorem idx_at (s : ByteArray) (w : World) : Calls Tryz.prog 146 #[.string s, .string ⟨#[47]⟩] w fun e w' => e = .returned (.int .i64 (Lib.indexByte s.data.toList 47)) ∧ w' = w := by
  have hi := idxs_at s w
  obtain ⟨R, hR⟩ : ∃ R, Lib.indexByte s.data.toList 47 = R := ⟨_, rfl⟩
  rw [hR] at hi ⊢
  have Hi := Lib.hid hi
  have HR := Lib.hid hR
  clear hi hR
  cases he : ([47] : List UInt8) == s.toList with
  | true =>
    go_enter Tryz.func146, Tryz.ntmps146
    go_wp2_with fail
    go_ret
    refine ⟨?_, rfl⟩
    have hs : s.data.toList = [47] := by rw [← ByteArray.toList_eq]; exact (beq_iff_eq.1 he).symm
    have h0 : R = 0 := by rw [← HR.out, hs]; rfl
    rw [h0]
    rfl
  | false =>
    go_enter Tryz.func146, Tryz.ntmps146
    go_wp2_with fail
    refine Hi.out.mono ?_
    rintro e w' ⟨rfl, rfl⟩
    go_wp2
    go_ret
    exact ⟨rfl, rfl⟩

theorem indexByte_cases : ∀ (l : List UInt8) (c : UInt8), Lib.indexByte l c = -1 ∨ ∃ i : Nat, Lib.indexByte l c = i
  | [], c => .inl rfl
  | b :: l, c => by
    rw [Lib.indexByte]
    split
    · exact .inr ⟨0, rfl⟩
    · rcases indexByte_cases l c with h | ⟨i, h⟩
      · rw [h]; exact .inl rfl
      · rw [h]
        split
        · exact .inl rfl
        · exact .inr ⟨i + 1, by omega⟩

theorem indexByte_lt : ∀ {l : List UInt8} {c : UInt8} {i : Nat}, Lib.indexByte l c = i → i < l.length
  | [], c, i, h => by simp [Lib.indexByte] at h
  | b :: l, c, i, h => by
    rw [Lib.indexByte] at h
    rw [List.length_cons]
    split at h
    · omega
    · rcases indexByte_cases l c with h1 | ⟨k, h1⟩
      · rw [h1] at h
        have h : (-1 : Int) = i := h
        omega
      · have := indexByte_lt h1
        rw [h1] at h
        split at h <;> omega

set_option maxHeartbeats 1000000 in
theorem cuts_yes (s : ByteArray) (hs : s.size ≤ 9223372036854775807) (I : Nat) (hI : Lib.indexByte s.data.toList 47 = I) (w : World) :
    Calls Tryz.prog 117 #[.string s, .string ⟨#[47]⟩] w fun e w' => e = .returned (.tuple #[.string (s.extract 0 I), .string (s.extract (I + 1) s.size), .bool true]) ∧ Mod (fun _ => False) w w' := by
  have hi := idx_at s w
  rw [hI] at hi
  have hlt : I < s.size := indexByte_lt hI
  have hlt' : (I : Int) < s.size := by omega
  have hs' : (s.size : Int) ≤ 9223372036854775807 := by omega
  have Hi := Lib.hid hi
  clear hi hI hs
  go_enter Tryz.func117, Tryz.ntmps117
  go_wp2_with fail
  refine Hi.out.mono ?_
  rintro e w' ⟨rfl, rfl⟩
  go_wp2_with fail
  have hi2 : (I : Int) ≤ s.size := by omega
  have hi3 : (I : Int) + 1 ≤ s.size := by omega
  have hw3 : IntKind.i64.wrap ((I : Int) + 1) = (I : Int) + 1 := by rw [IntKind.wrap_i64]; omega
  have hb3 : (0 : Int) ≤ (I : Int) + 1 := by omega
  have htn2 : ((I : Int) + 1).toNat = I + 1 := by omega
  have hS : (fun _ : World => True) w'.drew := trivial
  refine wp_region_script [.rd 0, .rd 1, .rd 2, .rd 3, .rd 4, .rd 5, .rd 6, .rd 7, .rd 8, .rd 9, .rd 10, .rd 11] [] (fun _ : World => True) (by kernel_rfl) (by kernel_rfl) (fun _ _ d _ _ h => (by cases d <;> exact h)) ?_
  refine walk_rd rfl ?_ (fun _ => hS) ?_ (fun w0 h0 => ?_) (fun K hK => ?_)
  · (try simp only [List.getElem_toArray]); (try simp only [List.getElem_cons_succ]); (try simp only [List.getElem_cons_zero])
    go_simp; done
  rotate_left
  · (try simp only [List.getElem_toArray]); (try simp only [List.getElem_cons_succ]); (try simp only [List.getElem_cons_zero])
    first
      | (obtain - := h0 rfl; clear h0; go_simp; with_reducible rfl)
      | (clear h0; go_simp; with_reducible rfl)
  (try simp only [List.getElem_toArray]); (try simp only [List.getElem_cons_succ]); (try simp only [List.getElem_cons_zero])
  go_simp; refine hK _ ?_; clear hK K
  refine walk_rd rfl ?_ (fun _ => hS) ?_ (fun w0 h0 => ?_) (fun K hK => ?_)
  · (try simp only [List.getElem_toArray]); (try simp only [List.getElem_cons_succ]); (try simp only [List.getElem_cons_zero])
    go_simp; done
  rotate_left
  · (try simp only [List.getElem_toArray]); (try simp only [List.getElem_cons_succ]); (try simp only [List.getElem_cons_zero])
    first
      | (obtain - := h0 rfl; clear h0; go_simp; with_reducible rfl)
      | (clear h0; go_simp; with_reducible rfl)
  (try simp only [List.getElem_toArray]); (try simp only [List.getElem_cons_succ]); (try simp only [List.getElem_cons_zero])
  go_simp; refine hK _ ?_; clear hK K
  refine walk_rd rfl ?_ (fun _ => hS) ?_ (fun w0 h0 => ?_) (fun K hK => ?_)
  · (try simp only [List.getElem_toArray]); (try simp only [List.getElem_cons_succ]); (try simp only [List.getElem_cons_zero])
    go_simp; done
  rotate_left
  · (try simp only [List.getElem_toArray]); (try simp only [List.getElem_cons_succ]); (try simp only [List.getElem_cons_zero])
    first
      | (obtain - := h0 rfl; clear h0; go_simp; with_reducible rfl)
      | (clear h0; go_simp; with_reducible rfl)
  (try simp only [List.getElem_toArray]); (try simp only [List.getElem_cons_succ]); (try simp only [List.getElem_cons_zero])
  go_simp; refine hK _ ?_; clear hK K
  refine walk_rd rfl ?_ (fun _ => hS) ?_ (fun w0 h0 => ?_) (fun K hK => ?_)
  · (try simp only [List.getElem_toArray]); (try simp only [List.getElem_cons_succ]); (try simp only [List.getElem_cons_zero])
    go_simp; done
  rotate_left
  · (try simp only [List.getElem_toArray]); (try simp only [List.getElem_cons_succ]); (try simp only [List.getElem_cons_zero])
    first
      | (obtain - := h0 rfl; clear h0; go_simp; with_reducible rfl)
      | (clear h0; go_simp; with_reducible rfl)
  (try simp only [List.getElem_toArray]); (try simp only [List.getElem_cons_succ]); (try simp only [List.getElem_cons_zero])
  go_simp; refine hK _ ?_; clear hK K
  refine walk_rd rfl ?_ (fun _ => hS) ?_ (fun w0 h0 => ?_) (fun K hK => ?_)
  · (try simp only [List.getElem_toArray]); (try simp only [List.getElem_cons_succ]); (try simp only [List.getElem_cons_zero])
    go_simp; done
  rotate_left
  · (try simp only [List.getElem_toArray]); (try simp only [List.getElem_cons_succ]); (try simp only [List.getElem_cons_zero])
    first
      | (obtain - := h0 rfl; clear h0; go_simp; with_reducible rfl)
      | (clear h0; go_simp; with_reducible rfl)
  (try simp only [List.getElem_toArray]); (try simp only [List.getElem_cons_succ]); (try simp only [List.getElem_cons_zero])
  go_simp; refine hK _ ?_; clear hK K
  refine walk_rd rfl ?_ (fun _ => hS) ?_ (fun w0 h0 => ?_) (fun K hK => ?_)
  · (try simp only [List.getElem_toArray]); (try simp only [List.getElem_cons_succ]); (try simp only [List.getElem_cons_zero])
    go_simp; done
  rotate_left
  · (try simp only [List.getElem_toArray]); (try simp only [List.getElem_cons_succ]); (try simp only [List.getElem_cons_zero])
    first
      | (obtain - := h0 rfl; clear h0; go_simp; with_reducible rfl)
      | (clear h0; go_simp; with_reducible rfl)
  (try simp only [List.getElem_toArray]); (try simp only [List.getElem_cons_succ]); (try simp only [List.getElem_cons_zero])
  go_simp; refine hK _ ?_; clear hK K
  refine walk_rd rfl ?_ (fun _ => hS) ?_ (fun w0 h0 => ?_) (fun K hK => ?_)
  · (try simp only [List.getElem_toArray]); (try simp only [List.getElem_cons_succ]); (try simp only [List.getElem_cons_zero])
    go_simp; done
  rotate_left
  · (try simp only [List.getElem_toArray]); (try simp only [List.getElem_cons_succ]); (try simp only [List.getElem_cons_zero])
    first
      | (obtain - := h0 rfl; clear h0; go_simp; with_reducible rfl)
      | (clear h0; go_simp; with_reducible rfl)
  (try simp only [List.getElem_toArray]); (try simp only [List.getElem_cons_succ]); (try simp only [List.getElem_cons_zero])
  go_simp; refine hK _ ?_; clear hK K
  refine walk_rd rfl ?_ (fun _ => hS) ?_ (fun w0 h0 => ?_) (fun K hK => ?_)
  · (try simp only [List.getElem_toArray]); (try simp only [List.getElem_cons_succ]); (try simp only [List.getElem_cons_zero])
    go_simp; done
  rotate_left
  · (try simp only [List.getElem_toArray]); (try simp only [List.getElem_cons_succ]); (try simp only [List.getElem_cons_zero])
    first
      | (obtain - := h0 rfl; clear h0; go_simp; with_reducible rfl)
      | (clear h0; go_simp; with_reducible rfl)
  (try simp only [List.getElem_toArray]); (try simp only [List.getElem_cons_succ]); (try simp only [List.getElem_cons_zero])
  go_simp; refine hK _ ?_; clear hK K
  refine walk_rd rfl ?_ (fun _ => hS) ?_ (fun w0 h0 => ?_) (fun K hK => ?_)
  · (try simp only [List.getElem_toArray]); (try simp only [List.getElem_cons_succ]); (try simp only [List.getElem_cons_zero])
    go_simp; done
  rotate_left
  · (try simp only [List.getElem_toArray]); (try simp only [List.getElem_cons_succ]); (try simp only [List.getElem_cons_zero])
    first
      | (obtain - := h0 rfl; clear h0; go_simp; with_reducible rfl)
      | (clear h0; go_simp; with_reducible rfl)
  (try simp only [List.getElem_toArray]); (try simp only [List.getElem_cons_succ]); (try simp only [List.getElem_cons_zero])
  go_simp; refine hK _ ?_; clear hK K
  refine walk_rd rfl ?_ (fun _ => hS) ?_ (fun w0 h0 => ?_) (fun K hK => ?_)
  · (try simp only [List.getElem_toArray]); (try simp only [List.getElem_cons_succ]); (try simp only [List.getElem_cons_zero])
    go_simp; done
  rotate_left
  · (try simp only [List.getElem_toArray]); (try simp only [List.getElem_cons_succ]); (try simp only [List.getElem_cons_zero])
    first
      | (obtain - := h0 rfl; clear h0; go_simp; with_reducible rfl)
      | (clear h0; go_simp; with_reducible rfl)
  (try simp only [List.getElem_toArray]); (try simp only [List.getElem_cons_succ]); (try simp only [List.getElem_cons_zero])
  go_simp; refine hK _ ?_; clear hK K
  refine walk_rd rfl ?_ (fun _ => hS) ?_ (fun w0 h0 => ?_) (fun K hK => ?_)
  · (try simp only [List.getElem_toArray]); (try simp only [List.getElem_cons_succ]); (try simp only [List.getElem_cons_zero])
    go_simp; done
  rotate_left
  · (try simp only [List.getElem_toArray]); (try simp only [List.getElem_cons_succ]); (try simp only [List.getElem_cons_zero])
    first
      | (obtain - := h0 rfl; clear h0; go_simp; with_reducible rfl)
      | (clear h0; go_simp; with_reducible rfl)
  (try simp only [List.getElem_toArray]); (try simp only [List.getElem_cons_succ]); (try simp only [List.getElem_cons_zero])
  go_simp; refine hK _ ?_; clear hK K
  refine walk_rd rfl ?_ (fun _ => hS) ?_ (fun w0 h0 => ?_) (fun K hK => ?_)
  · (try simp only [List.getElem_toArray]); (try simp only [List.getElem_cons_succ]); (try simp only [List.getElem_cons_zero])
    go_simp; done
  rotate_left
  · (try simp only [List.getElem_toArray]); (try simp only [List.getElem_cons_succ]); (try simp only [List.getElem_cons_zero])
    first
      | (obtain - := h0 rfl; clear h0; go_simp; with_reducible rfl)
      | (clear h0; go_simp; with_reducible rfl)
  (try simp only [List.getElem_toArray]); (try simp only [List.getElem_cons_succ]); (try simp only [List.getElem_cons_zero])
  go_simp; refine hK _ ?_; clear hK K
  refine walk_nil ?_
  go_wp2
  go_ret3
  exact ⟨rfl, (Mod.refl _ _).drew⟩
set_option maxHeartbeats 1000000 in
theorem cuts_no (s : ByteArray) (hI : Lib.indexByte s.data.toList 47 = -1) (w : World) :
    Calls Tryz.prog 117 #[.string s, .string ⟨#[47]⟩] w fun e w' => e = .returned (.tuple #[.string s, .string ⟨#[]⟩, .bool false]) ∧ Mod (fun _ => False) w w' := by
  have hi := idx_at s w
  rw [hI] at hi
  have Hi := Lib.hid hi
  clear hi hI
  go_enter Tryz.func117, Tryz.ntmps117
  go_wp2_with fail
  refine Hi.out.mono ?_
  rintro e w' ⟨rfl, rfl⟩
  go_wp2
  go_ret3
  exact ⟨rfl, Mod.refl _ _⟩

/-- What stands ahead of the first '/', what behind it, and whether there is one. -/
def cutS (s : ByteArray) : ByteArray × ByteArray × Bool := if 0 ≤ Lib.indexByte s.data.toList 47 then (s.extract 0 (Lib.indexByte s.data.toList 47).toNat, s.extract ((Lib.indexByte s.data.toList 47).toNat + 1) s.size, true) else (s, ⟨#[]⟩, false)
theorem cut_at (s : ByteArray) (hs : s.size ≤ 9223372036854775807) (w : World) :
    Calls Tryz.prog 75 #[.string s, .string ⟨#[47]⟩] w fun e w' => e = .returned (.tuple #[.string (cutS s).1, .string (cutS s).2.1, .bool (cutS s).2.2]) ∧ Mod (fun _ => False) w w' := by
  have hc : Calls Tryz.prog 117 #[.string s, .string ⟨#[47]⟩] w fun e w' => e = .returned (.tuple #[.string (cutS s).1, .string (cutS s).2.1, .bool (cutS s).2.2]) ∧ Mod (fun _ => False) w w' := by
    rcases indexByte_cases s.data.toList 47 with h | ⟨I, h⟩
    · have e : cutS s = (s, ⟨#[]⟩, false) := by unfold cutS; rw [h]; rfl
      rw [e]
      exact cuts_no s h w
    · have e : cutS s = (s.extract 0 I, s.extract (I + 1) s.size, true) := by
        unfold cutS
        rw [h, if_pos (by omega)]
        rfl
      rw [e]
      exact cuts_yes s hs I h w
  generalize cutS s = C at hc ⊢
  have Hc := Lib.hid hc
  clear hc hs
  go_enter Tryz.func75, Tryz.ntmps75
  go_wp2_with fail
  refine Hc.out.mono ?_
  rintro e w' ⟨rfl, hm⟩
  have Hm := Lib.hid hm
  clear hm
  go_wp2
  go_ret3
  exact ⟨rfl, Hm.out⟩

/-- The rest is shorter. -/
theorem cut_rest {s : ByteArray} (h : (cutS s).2.2 = true) : (cutS s).2.1.size < s.size := by
  unfold cutS at h ⊢
  split at h
  · rename_i h0
    rw [if_pos h0]
    rcases indexByte_cases s.data.toList 47 with h1 | ⟨I, h1⟩
    · omega
    · have hlt : I < s.size := indexByte_lt h1
      rw [h1]
      show (s.extract (I + 1) s.size).size < s.size
      rw [ByteArray.size_extract]
      omega
  · cases h
theorem cut_sum {s : ByteArray} (h : (cutS s).2.2 = true) : (cutS s).1.size + 1 + (cutS s).2.1.size = s.size := by
  unfold cutS at h ⊢
  split at h
  · rename_i h0
    rw [if_pos h0]
    rcases indexByte_cases s.data.toList 47 with h1 | ⟨I, h1⟩
    · omega
    · have hlt : I < s.size := indexByte_lt h1
      rw [h1]
      show (s.extract 0 I).size + 1 + (s.extract (I + 1) s.size).size = s.size
      rw [ByteArray.size_extract, ByteArray.size_extract]
      omega
  · cases h
theorem cut_size (s : ByteArray) : (cutS s).1.size ≤ s.size ∧ (cutS s).2.1.size ≤ s.size := by
  unfold cutS
  split
  · constructor
    · show (s.extract _ _).size ≤ _
      rw [ByteArray.size_extract]
      omega
    · show (s.extract _ _).size ≤ _
      rw [ByteArray.size_extract]
      omega
  · exact ⟨Nat.le_refl _, Nat.zero_le _⟩
end Go.Proofs.YtloplmaekonenaaGreatDoor
