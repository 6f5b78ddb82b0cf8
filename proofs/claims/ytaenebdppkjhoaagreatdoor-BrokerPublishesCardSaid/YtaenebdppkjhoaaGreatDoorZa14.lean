/-
  A rule, but for where its conditions lie. Plain Lean.
  How Go's strconv brings a number to its shortest text, in plain words: the scaling, and what its cut tells.
-/
import Derived.Test.YtaenebdppkjhoaaGreatDoorZa8
import Derived.Test.YtaenebdppkjhoaaGreatDoorZa12
import GoSem.PinnedTables
namespace Go.Proofs.YtaenebdppkjhoaaGreatDoor
set_option maxRecDepth 20000
open Go.RowKit

/-- A rule, but for where its conditions lie. -/
structure PRu where
  kind : Int
  tenant : Int
  who : ByteArray
  broker : Int
  sc : ByteArray
  cs : List Cnd
  name : ByteArray
  at_ : Int
def PRu.zero : PRu := ⟨0, 0, ⟨#[]⟩, 0, ⟨#[]⟩, [], ⟨#[]⟩, 0⟩
def PRu.lies (p : PRu) (a : Option Addr) (c : Nat) : Ru := ⟨p.kind, p.tenant, p.who, p.broker, p.sc, a, c, p.name, p.at_, p.cs⟩
def PRu.rightB (p : PRu) : Bool := (p.lies none 0).rightB
end Go.Proofs.YtaenebdppkjhoaaGreatDoor

namespace Go.Proofs.YtaenebdppkjhoaaGreatDoor
set_option maxRecDepth 20000

def pw (i : Nat) : Nat × Nat := Go.Pinned.pow10Rows.getD i (0, 0)
def l10P2 (x : Int) : Int := x * 78913 / 262144
def l2P10 (x : Int) : Int := x * 108853 / 32768
def skewP (e : Int) : Int := (e * 631305 - 261663) / 2097152
def W64 : Nat := 18446744073709551616
/-- uscale: x times hi * 2^64 - lo, but for s + 128 - 2 bits; two bits behind the point, the last one set where something was left. -/
def usc (x hi lo s : Nat) : Nat :=
  if x * hi / W64 / 2 ^ s * 2 ^ s = x * hi / W64 then
    (x * hi / W64 - (if x * hi % W64 < x * lo / W64 then 1 else 0)) / 2 ^ s ||| (if 1 < (x * hi % W64 + W64 - x * lo / W64) % W64 then 1 else 0)
  else x * hi / W64 / 2 ^ s ||| 1
/-- The parts of a positive number's bits: a mantissa of 64 bits, an exponent. -/
def mant (b : Nat) : Nat := if b / 2 ^ 52 = 0 then b else b % 2 ^ 52 + 2 ^ 52
def expo (b : Nat) : Int := (if b / 2 ^ 52 = 0 then 1 else (b / 2 ^ 52 : Nat)) - 1023
def sh (b : Nat) : Nat := 63 - (mant b).log2
def mOf (b : Nat) : Nat := mant b * 2 ^ sh b
def eOf (b : Nat) : Int := expo b - sh b - 52
structure Scl where
  mn : Nat
  mx : Nat
  odd : Nat
  p : Int
def sclOf (m : Nat) (e : Int) : Scl :=
  if m = 2 ^ 63 ∧ -1085 < e then ⟨m - 2 ^ 9, m + 2 ^ 10, m / 2 ^ 11 % 2, -skewP (e + 11)⟩
  else if -1085 ≤ e then ⟨m - 2 ^ 10, m + 2 ^ 10, m / 2 ^ 11 % 2, -l10P2 (e + 11)⟩
  else ⟨m - 2 ^ ((11 + (-1085 - e)).toNat - 1), m + 2 ^ ((11 + (-1085 - e)).toNat - 1), m / 2 ^ (11 + (-1085 - e)).toNat % 2, -l10P2 (e + (11 + (-1085 - e)))⟩
def hiOf (p : Int) : Nat := (pw (p + 348).toNat).1
def loOf (p : Int) : Nat := (pw (p + 348).toNat).2
def sOf (e p : Int) : Nat := (-(e + l2P10 p + 3)).toNat
def dminOf (m : Nat) (e : Int) : Nat := let c := sclOf m e; (usc c.mn (hiOf c.p) (loOf c.p) (sOf e c.p) + c.odd + 3) / 4
def dmaxOf (m : Nat) (e : Int) : Nat := let c := sclOf m e; (usc c.mx (hiOf c.p) (loOf c.p) (sOf e c.p) - c.odd) / 4
def rnd (u : Nat) : Nat := (u + 1 + u / 4 % 2) / 4
def shortF (m : Nat) (e : Int) : Nat × Int :=
  let c := sclOf m e
  if dminOf m e ≤ dmaxOf m e / 10 * 10 then (dmaxOf m e / 10, -(c.p - 1))
  else if dminOf m e < dmaxOf m e then (rnd (usc m (hiOf c.p) (loOf c.p) (sOf e c.p)), -c.p)
  else (dminOf m e, -c.p)
def lowV (b : Nat) : Nat := dminOf (mOf b) (eOf b) * 10 ^ (324 - (sclOf (mOf b) (eOf b)).p).toNat
def highV (b : Nat) : Nat := dmaxOf (mOf b) (eOf b) * 10 ^ (324 - (sclOf (mOf b) (eOf b)).p).toNat
def valV (b : Nat) : Nat := let r := shortF (mOf b) (eOf b); r.1 * 10 ^ (324 + r.2).toNat

theorem or_one (a : Nat) : a ||| 1 = 2 * (a / 2) + 1 := by
  have h1 : (a ||| 1) / 2 = a / 2 := by rw [Nat.or_div_two]; simp
  have h2 : (a ||| 1) % 2 = 1 := Nat.or_mod_two_eq_one.2 (.inr rfl)
  omega
/-- What is scaled, before it is cut. -/
def tsc (x hi lo : Nat) : Nat := x * hi - x * lo / W64
theorem usc_is (x hi lo s : Nat) (hx : x < W64) (hlo : lo < W64) (hh : x ≤ x * hi) :
    ∃ b, usc x hi lo s = (if b = 1 then 2 * (tsc x hi lo / (W64 * 2 ^ s) / 2) + 1 else tsc x hi lo / (W64 * 2 ^ s)) ∧ (1 < tsc x hi lo % (W64 * 2 ^ s) → b = 1) ∧ (tsc x hi lo % (W64 * 2 ^ s) = 0 → b ≠ 1) := by
  have h2 : x * lo / W64 ≤ W64 - 2 := by
    have h3 : x * lo ≤ (W64 - 1) * (W64 - 1) := Nat.mul_le_mul (by omega) (by omega)
    have h4 : (W64 - 1) * (W64 - 1) / W64 = W64 - 2 := by decide
    rw [← h4]
    exact Nat.div_le_div_right h3
  have h2b : x * lo / W64 ≤ x := by
    refine Nat.div_le_of_le_mul ?_
    rw [Nat.mul_comm W64]
    exact Nat.mul_le_mul_left _ (Nat.le_of_lt hlo)
  have hW : 0 < W64 := by decide
  have hW2 : 1 < W64 := by decide
  have hS : 0 < 2 ^ s := Nat.pos_of_ne_zero (by simp)
  unfold usc tsc
  obtain ⟨c, hc⟩ : ∃ c, x * lo / W64 = c := ⟨_, rfl⟩
  rw [hc] at h2 h2b ⊢
  obtain ⟨P, hP⟩ : ∃ P, x * hi = P := ⟨_, rfl⟩
  rw [hP] at hh ⊢
  obtain ⟨H, hH⟩ : ∃ H, P / W64 = H := ⟨_, rfl⟩
  obtain ⟨d, hd⟩ : ∃ d, P % W64 = d := ⟨_, rfl⟩
  have hPd : P = H * W64 + d := by rw [← hH, ← hd, Nat.mul_comm]; exact (Nat.div_add_mod P W64).symm
  have hd1 : d < W64 := hd ▸ Nat.mod_lt _ hW
  rw [hH, hd]
  obtain ⟨S, hSS⟩ : ∃ S, 2 ^ s = S := ⟨_, rfl⟩
  rw [hSS] at hS ⊢
  have hHd := Nat.div_add_mod H S
  have hHm := Nat.mod_lt H hS
  by_cases hcd : d < c
  · -- a borrow
    rw [if_pos hcd]
    have hH1 : 1 ≤ H := by
      rcases Nat.eq_zero_or_pos H with h | h
      · rw [h, Nat.zero_mul, Nat.zero_add] at hPd; omega
      · exact h
    obtain ⟨G, rfl⟩ : ∃ G, H = G + 1 := ⟨H - 1, by omega⟩
    rw [Nat.add_mul, Nat.one_mul] at hPd
    have hT : P - c = G * W64 + (W64 + d - c) := by omega
    have hTd : (P - c) / W64 = G := by
      rw [hT, Nat.add_comm, Nat.add_mul_div_right _ _ hW, Nat.div_eq_of_lt (by omega), Nat.zero_add]
    have hTm : (P - c) % W64 = W64 + d - c := by
      rw [hT, Nat.add_comm, Nat.add_mul_mod_self_right, Nat.mod_eq_of_lt (by omega)]
    have hA : (P - c) / (W64 * S) = G / S := by rw [← Nat.div_div_eq_div_mul, hTd]
    have hR : (P - c) % (W64 * S) = (P - c) % W64 + W64 * ((P - c) / W64 % S) := Nat.mod_mul
    rw [hTd, hTm] at hR
    rw [hA, hR, show (d + W64 - c) % W64 = W64 + d - c by rw [Nat.add_comm d W64]; exact Nat.mod_eq_of_lt (by omega), if_pos (show 1 < W64 + d - c by omega), Nat.add_sub_cancel]
    refine ⟨1, ?_, fun _ => rfl, fun h => absurd h (by omega)⟩
    rw [if_pos rfl]
    by_cases hz : (G + 1) / S * S = G + 1
    · rw [if_pos hz, or_one]
    · rw [if_neg hz, or_one]
      have : (G + 1) / S = G / S := by
        rw [Nat.succ_div]
        rw [if_neg (fun h => hz (Nat.div_mul_cancel h))]
        rfl
      rw [this]
  · rw [if_neg hcd]
    have hT : P - c = H * W64 + (d - c) := by omega
    have hTd : (P - c) / W64 = H := by
      rw [hT, Nat.add_comm, Nat.add_mul_div_right _ _ hW, Nat.div_eq_of_lt (by omega), Nat.zero_add]
    have hTm : (P - c) % W64 = d - c := by
      rw [hT, Nat.add_comm, Nat.add_mul_mod_self_right, Nat.mod_eq_of_lt (by omega)]
    have hA : (P - c) / (W64 * S) = H / S := by rw [← Nat.div_div_eq_div_mul, hTd]
    have hR : (P - c) % (W64 * S) = (P - c) % W64 + W64 * ((P - c) / W64 % S) := Nat.mod_mul
    rw [hTd, hTm] at hR
    rw [hA, hR, show (d + W64 - c) % W64 = d - c by rw [show d + W64 - c = (d - c) + W64 by omega, Nat.add_mod_right]; exact Nat.mod_eq_of_lt (by omega), Nat.sub_zero]
    by_cases hz : H / S * S = H
    · rw [if_pos hz]
      have hm0 : H % S = 0 := by rw [Nat.mul_comm] at hz; omega
      rw [hm0, Nat.mul_zero, Nat.add_zero]
      by_cases h1 : 1 < d - c
      · rw [if_pos h1, or_one]
        exact ⟨1, by rw [if_pos rfl], fun _ => rfl, fun h => absurd h (by omega)⟩
      · rw [if_neg h1]
        exact ⟨0, by simp, fun h => absurd h h1, fun _ => by decide⟩
    · rw [if_neg hz, or_one]
      have hm0 : 1 ≤ H % S := by
        rcases Nat.eq_zero_or_pos (H % S) with h | h
        · exfalso; apply hz; rw [Nat.mul_comm]; omega
        · exact h
      refine ⟨1, by rw [if_pos rfl], fun _ => rfl, fun h => ?_⟩
      have : W64 * 1 ≤ W64 * (H % S) := Nat.mul_le_mul_left _ hm0
      omega

/-- What a scaled number's cut tells: T is what is cut at Q. -/
structure Cut (T Q u : Nat) : Prop where
  lo : ∀ n, 4 * n * Q ≤ T → 4 * n ≤ u
  lo1 : ∀ n, 4 * n * Q + 2 ≤ T → 4 * n + 1 ≤ u
  up : ∀ n, T < 4 * n * Q → u ≤ 4 * n - 1
  at_ : ∀ n, T = n * Q → u = n
  half : ∀ n, 4 * n * Q ≤ T + 1 → 4 * n ≤ u + 1
theorem cut_of {T Q u b : Nat} (hQ : 4 < Q) (hu : u = (if b = 1 then 2 * (T / Q / 2) + 1 else T / Q)) (h1 : 1 < T % Q → b = 1) (h0 : T % Q = 0 → b ≠ 1) : Cut T Q u := by
  have hd := Nat.div_add_mod T Q
  have hm := Nat.mod_lt T (show 0 < Q by omega)
  obtain ⟨A, hA⟩ : ∃ A, T / Q = A := ⟨_, rfl⟩
  obtain ⟨r, hr⟩ : ∃ r, T % Q = r := ⟨_, rfl⟩
  rw [hA] at hd hu
  rw [hr] at hd hm h1 h0
  have hge : A ≤ u := by rw [hu]; split <;> omega
  have hle : u ≤ A + 1 - A % 2 := by rw [hu]; split <;> omega
  have key : ∀ n, n * Q ≤ T → n ≤ A := fun n h => by
    rw [← hA]; exact (Nat.le_div_iff_mul_le (by omega)).2 h
  have key2 : ∀ n, T < n * Q → A < n := fun n h => by
    rw [← hA]; exact Nat.div_lt_of_lt_mul (by rw [Nat.mul_comm]; exact h)
  refine ⟨fun n h => Nat.le_trans (key _ h) hge, fun n h => ?_, fun n h => ?_, fun n h => ?_, fun n h => ?_⟩
  · have hA4 := key (4 * n) (by omega)
    rcases Nat.lt_or_ge (4 * n) A with hlt | hge2
    · omega
    · have e : A = 4 * n := by omega
      rw [e, Nat.mul_comm] at hd
      have := h1 (by omega)
      rw [if_pos this] at hu
      omega
  · have := key2 (4 * n) h
    omega
  · have e1 := key n (Nat.le_of_eq h.symm)
    have e2 := key2 (n + 1) (by rw [Nat.add_mul]; omega)
    have e : A = n := by omega
    rw [e, Nat.mul_comm] at hd
    have hr0 : r = 0 := by omega
    rw [if_neg (h0 hr0)] at hu
    omega
  · rcases Nat.lt_or_ge T (4 * n * Q) with hlt | hge2
    · rcases Nat.eq_zero_or_pos n with rfl | hn
      · omega
      · obtain ⟨k, hk⟩ : ∃ k, 4 * n = k + 1 := ⟨4 * n - 1, by omega⟩
        have := key k (by rw [hk, Nat.add_mul] at h; omega)
        omega
    · have := key _ hge2
      omega
/-- Claim A: a range that is wide enough holds a whole number. -/
theorem range_some {T1 T2 Q u1 u2 odd : Nat} (h1 : Cut T1 Q u1) (h2 : Cut T2 Q u2) (hQ : 4 < Q) (ho : odd ≤ 1) (hw : T1 + 4 * Q + 2 ≤ T2) : (u1 + odd + 3) / 4 ≤ (u2 - odd) / 4 := by
  obtain ⟨n, hn⟩ : ∃ n, n = (T1 + 4 * Q - 1) / (4 * Q) := ⟨_, rfl⟩
  have hd := Nat.div_add_mod (T1 + 4 * Q - 1) (4 * Q)
  have hm := Nat.mod_lt (T1 + 4 * Q - 1) (show 0 < 4 * Q by omega)
  rw [← hn] at hd
  have e1 : 4 * Q * n = 4 * n * Q := by rw [Nat.mul_assoc, Nat.mul_assoc, Nat.mul_comm Q n]
  rw [e1] at hd
  have hle : T1 ≤ 4 * n * Q := by omega
  have hgt : 4 * n * Q < T1 + 4 * Q := by omega
  have e2 : 4 * (n + 1) * Q = 4 * n * Q + 4 * Q := by rw [Nat.mul_add, Nat.add_mul]
  rcases Nat.lt_or_ge T1 (4 * n * Q) with hlt | hge
  · have a := h1.up n hlt
    have b := h2.lo1 n (by omega)
    have hn0 : 0 < n := by rcases Nat.eq_zero_or_pos n with rfl | h; · omega
                           · exact h
    omega
  · have a := h1.at_ (4 * n) (by omega)
    have b := h2.lo1 (n + 1) (by omega)
    have c := h2.lo1 n (by omega)
    omega
end Go.Proofs.YtaenebdppkjhoaaGreatDoor
