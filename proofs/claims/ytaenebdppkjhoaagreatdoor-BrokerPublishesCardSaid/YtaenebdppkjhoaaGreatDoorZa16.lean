/-
  strconv's small functions: logarithms, cuts, the scaler.
  What start-up code lays, as far as it is read here; strconv's scaler is made.
-/
import Derived.Test.YtaenebdppkjhoaaGreatDoorZa14
import Derived.Test.YtaenebdppkjhoaaGreatDoorZa3
import Derived.Test.YtaenebdppkjhoaaGreatDoorChecked
import Derived.Test.YtaenebdppkjhoaaGreatDoorZa15
import Derived.WalkSmall
import Derived.Laws.Bits64b
namespace Go.Proofs.YtaenebdppkjhoaaGreatDoor
set_option maxRecDepth 20000
open Go.RowKit

theorem and_pow2 (n : Int) (k : Nat) (hk : k < 63) : bits .and .i64 n ((2 ^ k - 1 : Nat) : Int) = n % ((2 ^ k : Nat) : Int) := by
  have hp : 2 ^ k < 2 ^ 63 := Nat.pow_lt_pow_right (by decide) hk
  have hp0 : 0 < 2 ^ k := Nat.two_pow_pos k
  have h127 : (BitVec.ofInt 64 ((2 ^ k - 1 : Nat) : Int)).toNat = 2 ^ k - 1 := by
    rw [BitVec.toNat_ofInt]
    omega
  have key : (BitVec.ofInt 64 n &&& BitVec.ofInt 64 ((2 ^ k - 1 : Nat) : Int)).toNat = (n % ((2 ^ 64 : Nat) : Int)).toNat % 2 ^ k := by
    rw [BitVec.toNat_and, BitVec.toNat_ofInt, h127, Nat.and_two_pow_sub_one_eq_mod]
  show IntKind.i64.wrap ((BitVec.ofInt 64 n &&& BitVec.ofInt 64 ((2 ^ k - 1 : Nat) : Int)).toNat : Nat) = n % ((2 ^ k : Nat) : Int)
  rw [key, IntKind.wrap_i64]
  have h1 : (n % ((2 ^ 64 : Nat) : Int)).toNat % 2 ^ k < 2 ^ k := Nat.mod_lt _ hp0
  have h2 : (((n % ((2 ^ 64 : Nat) : Int)).toNat % 2 ^ k : Nat) : Int) = n % ((2 ^ k : Nat) : Int) := by
    rw [Int.natCast_emod, Int.toNat_of_nonneg (Int.emod_nonneg _ (by decide))]
    exact Int.emod_emod_of_dvd n (by exact_mod_cast Nat.pow_dvd_pow 2 (by omega))
  rw [← h2]
  generalize (n % ((2 ^ 64 : Nat) : Int)).toNat % 2 ^ k = q at *
  omega
theorem wrap_u64 (x : Int) : IntKind.u64.wrap x = x % 18446744073709551616 := rfl
theorem ret_int {k : IntKind} {x y : Int} (h : x = y) : Ending.returned (.int k x) = Ending.returned (.int k y) := by rw [h]

theorem log10p_at (x : Int) (h0 : -100000 ≤ x) (h1 : x ≤ 100000) (w : World) : Calls Tryz.prog 221 #[.int .i64 x] w fun e w' => e = .returned (.int .i64 (l10P2 x)) ∧ w' = w := by
  go_enter Tryz.func221, Tryz.ntmps221
  go_wp2
  go_ret
  exact ⟨rfl, rfl⟩
theorem log2p_at (x : Int) (h0 : -100000 ≤ x) (h1 : x ≤ 100000) (w : World) : Calls Tryz.prog 252 #[.int .i64 x] w fun e w' => e = .returned (.int .i64 (l2P10 x)) ∧ w' = w := by
  go_enter Tryz.func252, Tryz.ntmps252
  go_wp2
  go_ret
  exact ⟨rfl, rfl⟩
theorem skewed_at (x : Int) (h0 : -100000 ≤ x) (h1 : x ≤ 100000) (w : World) : Calls Tryz.prog 250 #[.int .i64 x] w fun e w' => e = .returned (.int .i64 (skewP x)) ∧ w' = w := by
  go_enter Tryz.func250, Tryz.ntmps250
  go_wp2
  go_ret
  exact ⟨rfl, rfl⟩
theorem bool2_at (b : Bool) (w : World) : Calls Tryz.prog 272 #[.bool b] w fun e w' => e = .returned (.int .u64 (if b then 1 else 0)) ∧ w' = w := by
  cases b <;> (
    go_enter Tryz.func272, Tryz.ntmps272
    go_wp2
    go_ret
    exact ⟨rfl, rfl⟩)
theorem floor_at (u : Nat) (h : u < 18446744073709551616) (w : World) : Calls Tryz.prog 256 #[.int .u64 u] w fun e w' => e = .returned (.int .u64 (u / 4 : Nat)) ∧ w' = w := by
  go_enter Tryz.func256, Tryz.ntmps256
  go_wp2
  go_ret
  exact ⟨ret_int (by omega), rfl⟩
theorem ceil_at (u : Nat) (h : u < 18446744073709551000) (w : World) : Calls Tryz.prog 255 #[.int .u64 u] w fun e w' => e = .returned (.int .u64 ((u + 3) / 4 : Nat)) ∧ w' = w := by
  go_enter Tryz.func255, Tryz.ntmps255
  go_wp2
  go_ret
  exact ⟨ret_int (by omega), rfl⟩
theorem round_at (u : Nat) (h : u < 18446744073709551000) (w : World) : Calls Tryz.prog 257 #[.int .u64 u] w fun e w' => e = .returned (.int .u64 (rnd u : Nat)) ∧ w' = w := by
  go_enter Tryz.func257, Tryz.ntmps257
  go_wp2
  go_ret
  refine ⟨ret_int ?_, rfl⟩
  rw [and_one_u64 _ (by omega) (by omega), wrap_u64]
  unfold rnd
  have h1 : ((u : Int) + 1 + (u : Int) / 4 % 2) % 18446744073709551616 = (u : Int) + 1 + (u : Int) / 4 % 2 := Int.emod_eq_of_lt (by omega) (by omega)
  rw [h1]
  omega
theorem nudge_at (u : Nat) (d : Int) (h : u < 18446744073709551000) (hd : d = 0 ∨ d = 1 ∨ (d = -1 ∧ 0 < u)) (w : World) : Calls Tryz.prog 254 #[.int .u64 u, .int .i64 d] w fun e w' => e = .returned (.int .u64 (u + d)) ∧ w' = w := by
  go_enter Tryz.func254, Tryz.ntmps254
  go_wp2
  go_ret
  refine ⟨ret_int ?_, rfl⟩
  rw [wrap_u64, wrap_u64]
  omega

/-- A scaler in memory. -/
def SclAt (w : World) (g : Nat) (hi lo s : Nat) : Prop := w.cell? ⟨g, 0, none⟩ = some (.int .u64 hi) ∧ w.cell? ⟨g, 1, none⟩ = some (.int .u64 lo) ∧ w.cell? ⟨g, 2, none⟩ = some (.int .i64 s)

theorem uscale_at (x hi lo s g : Nat) (hx : x < 18446744073709551616) (hhi : hi < 18446744073709551616) (hlo : lo < 18446744073709551616) (hs : s < 64) (hh : x ≤ x * hi) (w : World) (hc : SclAt w g hi lo s) :
    Calls Tryz.prog 253 #[.int .u64 x, .pointer (some ⟨g, 0, none⟩)] w fun e w' => e = .returned (.int .u64 (usc x hi lo s)) ∧ Mod (fun _ => False) w w' := by
  obtain ⟨c0, c1, c2⟩ := hc
  have hmu := Tryz.bits_Mul64 x hi hx hhi w
  have hm2 := Tryz.bits_Mul64 x lo hx hlo w
  obtain ⟨H, hH⟩ : ∃ H, x * hi / 18446744073709551616 = H := ⟨_, rfl⟩
  obtain ⟨M, hM⟩ : ∃ H, x * hi % 18446744073709551616 = H := ⟨_, rfl⟩
  obtain ⟨C, hC⟩ : ∃ H, x * lo / 18446744073709551616 = H := ⟨_, rfl⟩
  rw [hH, hM] at hmu
  rw [hC] at hm2
  have hand : bits .and .i64 (s : Int) 63 = s := by
    have := and_pow2 s 6 (by decide)
    have e : bits .and .i64 (s : Int) 63 = s % 64 := this
    rw [e]
    omega
  have hHl : H < 18446744073709551616 := by
    rw [← hH]
    exact Nat.div_lt_of_lt_mul (Nat.mul_lt_mul'' hx hhi)
  have hMl : M < 18446744073709551616 := by rw [← hM]; exact Nat.mod_lt _ (by decide)
  have hCl : C < 18446744073709551616 := by
    rw [← hC]
    exact Nat.div_lt_of_lt_mul (Nat.mul_lt_mul'' hx hlo)
  have hpw : 0 < 2 ^ s := Nat.two_pow_pos s
  have hdl : H / 2 ^ s * 2 ^ s ≤ H := Nat.div_mul_le_self H _
  have hwr : (IntKind.u64.wrap ((H : Int) / 2 ^ s * 2 ^ s) != (H : Int)) = !decide (H / 2 ^ s * 2 ^ s = H) := by
    have e : ((H : Int) / 2 ^ s * 2 ^ s) = ((H / 2 ^ s * 2 ^ s : Nat) : Int) := by push_cast; rfl
    rw [e, wrap_u64, Int.emod_eq_of_lt (by omega) (by omega)]
    by_cases h : H / 2 ^ s * 2 ^ s = H
    · rw [h, decide_eq_true rfl]; simp
    · rw [decide_eq_false h]
      simp only [bne_iff_ne, ne_eq, Bool.not_false]
      exact fun he => h (by exact_mod_cast he)
  have husc : usc x hi lo s = if H / 2 ^ s * 2 ^ s = H then (H - (if M < C then 1 else 0)) / 2 ^ s ||| (if 1 < (M + W64 - C) % W64 then 1 else 0) else H / 2 ^ s ||| 1 := by
    unfold usc
    rw [show W64 = 18446744073709551616 from rfl, hH, hM, hC]
  have hor : ∀ A B : Nat, A < 18446744073709551616 → B < 18446744073709551616 → bits .or .u64 (A : Int) (B : Int) = ((A ||| B : Nat) : Int) := bits_or_u64_nat
  have hdq : H / 2 ^ s ≤ H := Nat.div_le_self _ _
  rw [husc]
  by_cases hz : H / 2 ^ s * 2 ^ s = H
  · rw [if_pos hz]
    have hz2 : (IntKind.u64.wrap ((H : Int) / 2 ^ s * 2 ^ s) != (H : Int)) = false := by rw [hwr, decide_eq_true hz]; rfl
    have hb1 := bool2_at (decide (M < C)) w
    have hbq : (if decide (M < C) = true then (1 : Int) else 0) = (((if M < C then 1 else 0) : Nat) : Int) := by
      by_cases h : M < C
      · rw [if_pos h, if_pos (decide_eq_true h)]; rfl
      · rw [if_neg h, if_neg (by rw [decide_eq_false h]; decide)]; rfl
    rw [hbq] at hb1
    have hB1 : (if M < C then 1 else 0) ≤ H := by
      split
      · rename_i h
        rcases Nat.eq_zero_or_pos H with h0 | h0
        · exfalso
          have h1 := Nat.div_add_mod (x * hi) 18446744073709551616
          rw [hH, hM, h0] at h1
          have h2 : C ≤ x := by
            rw [← hC]
            refine Nat.div_le_of_le_mul ?_
            rw [Nat.mul_comm 18446744073709551616]
            exact Nat.mul_le_mul_left _ (by omega)
          omega
        · exact h0
      · exact Nat.zero_le _
    obtain ⟨B, hB⟩ : ∃ B : Nat, (if M < C then 1 else 0) = B := ⟨_, rfl⟩
    have hD1 : ∀ D : Bool, decide (1 < (M + W64 - C) % W64) = D → (if 1 < (M + W64 - C) % W64 then 1 else 0) = (if D = true then 1 else 0) := fun D h => by
      subst h
      by_cases h : 1 < (M + W64 - C) % W64 <;> simp [h]
    have hD2 : decide (1 < IntKind.u64.wrap ((M : Int) - C)) = decide (1 < (M + W64 - C) % W64) := by
      have e : IntKind.u64.wrap ((M : Int) - C) = (((M + W64 - C) % W64 : Nat) : Int) := by
        rw [wrap_u64, Int.natCast_emod, Int.ofNat_sub (by show C ≤ M + W64; unfold W64; omega)]
        show _ = ((M + W64 : Nat) - (C : Int)) % 18446744073709551616
        rw [Int.natCast_add, show ((W64 : Nat) : Int) = 18446744073709551616 from rfl]
        omega
      rw [e]
      exact decide_eq_decide.2 (by omega)
    obtain ⟨D, hD⟩ : ∃ D, decide (1 < (M + W64 - C) % W64) = D := ⟨_, rfl⟩
    rw [hB] at hb1 hB1 ⊢
    rw [hD1 D hD]
    rw [hD] at hD2
    have hb2 : ∀ w', Mod (fun _ => False) w w' → Calls Tryz.prog 272 #[.bool D] w' fun e w'' => e = .returned (.int .u64 (if D = true then 1 else 0)) ∧ Mod (fun _ => False) w w'' := fun w' hw' => (bool2_at D w').mono fun e w'' h => by obtain ⟨h1, rfl⟩ := h; exact ⟨h1, hw'⟩
    obtain ⟨E, hE⟩ : ∃ E : Nat, (if D = true then 1 else 0) = E := ⟨_, rfl⟩
    have hE1 : E ≤ 1 := by rw [← hE]; split <;> omega
    have hbE : (if D = true then (1 : Int) else 0) = (E : Int) := by rw [← hE]; split <;> rfl
    rw [hbE] at hb2
    rw [hE]
    have Hmu := Lib.hid hmu
    have Hm2 := Lib.hid hm2
    have HH := Lib.hid hH
    have HM := Lib.hid hM
    have HC := Lib.hid hC
    have Hwr := Lib.hid hwr
    have Husc := Lib.hid husc
    have Hor := Lib.hid hor
    have Hz := Lib.hid hz
    have Hdl := Lib.hid hdl
    have Hdq := Lib.hid hdq
    have Hpw := Lib.hid hpw
    have HB := Lib.hid hB
    have HB1 := Lib.hid hB1
    have Hb1 := Lib.hid hb1
    have Hb2 := Lib.hid hb2
    have Hbq := Lib.hid hbq
    have HE := Lib.hid hE
    have HE1 := Lib.hid hE1
    have HbE := Lib.hid hbE
    have HD := Lib.hid hD
    have HD1 := Lib.hid hD1
    clear hmu hm2 hH hM hC hwr husc hor hz hdl hdq hpw hB hB1 hb1 hb2 hbq hE hE1 hbE hD hD1
    go_enter Tryz.func253, Tryz.ntmps253
    go_wp2_with fail
    refine Hmu.out.mono ?_
    rintro e w1 ⟨rfl, rfl⟩
    go_wp2_with fail
    refine Hm2.out.mono ?_
    rintro e w2 ⟨rfl, rfl⟩
    go_wp2_with fail
    refine Hb1.out.mono ?_
    rintro e w3 ⟨rfl, rfl⟩
    go_wp2_with fail
    refine wp_region_news (by kernel_rfl) (by kernel_rfl) ?_
    iterate 10 (first
      | (refine quiet_skip ?_ (fun K hK => ?_)
         · first | (go_simp; done) | (go_simp; simp [undef]; done)
         go_simp; refine hK _ ?_; clear hK K)
      | (refine quiet_do ?_ ?_ (fun w' hw' => ?_) (fun K hK => ?_)
         · first | (go_simp; done) | (go_simp; simp [undef]; done)
         rotate_left
         · skip
           go_simp
           rfl
         go_simp; refine hK _ ?_; clear hK K)
      | (refine quiet_in ?_ ?_ ?_ ?_ (fun w' hw' => ?_) ?_ (fun K hK => ?_)
         · first | (go_simp; done) | (go_simp; simp [undef]; done)
         rotate_left 3
         · skip
           go_simp
           constructor <;> rfl
         · first | exact Hb2.out
         go_simp; refine hK _ ?_; clear hK K))
    refine quiet_end (fun w' hw' => ?_)
    go_wp2
    go_ret
    refine ⟨ret_int ?_, hw'⟩
    have hB2 := HB1.out
    have e : (IntKind.u64.wrap ((H : Int) - B) / 2 ^ s) = (((H - B) / 2 ^ s : Nat) : Int) := by
      rw [wrap_u64, Int.emod_eq_of_lt (by omega) (by omega), ← Int.ofNat_sub hB2]
      push_cast
      rfl
    rw [e]
    exact Hor.out ((H - B) / 2 ^ s) E (by have := Nat.div_le_self (H - B) (2 ^ s); omega) (by have := HE1.out; omega)
  · rw [if_neg hz]
    have hz2 : (IntKind.u64.wrap ((H : Int) / 2 ^ s * 2 ^ s) != (H : Int)) = true := by rw [hwr, decide_eq_false hz]; rfl
    have Hmu := Lib.hid hmu
    have Hm2 := Lib.hid hm2
    have HH := Lib.hid hH
    have HM := Lib.hid hM
    have HC := Lib.hid hC
    have Hwr := Lib.hid hwr
    have Husc := Lib.hid husc
    have Hor := Lib.hid hor
    have Hz := Lib.hid hz
    have Hdl := Lib.hid hdl
    have Hdq := Lib.hid hdq
    have Hpw := Lib.hid hpw
    clear hmu hm2 hH hM hC hwr husc hor hz hdl hdq hpw
    go_enter Tryz.func253, Tryz.ntmps253
    go_wp2_with fail
    refine Hmu.out.mono ?_
    rintro e w1 ⟨rfl, rfl⟩
    go_wp2_with fail
    go_ret
    refine ⟨ret_int ?_, Mod.refl _ _⟩
    have e : ((H : Int) / 2 ^ s) = ((H / 2 ^ s : Nat) : Int) := by push_cast; rfl
    rw [e]
    exact Hor.out (H / 2 ^ s) 1 (by have := Hdq.out; omega) (by omega)
end Go.Proofs.YtaenebdppkjhoaaGreatDoor

namespace Go.Proofs.YtaenebdppkjhoaaGreatDoor
set_option maxRecDepth 20000
open Go.RowKit

/-- The tables of numbers. -/
structure Lays (w : World) : Prop where
  u10 : Lib.TabIs Tryz.prog w "internal/strconv.uint64pow10" .u64 Lib.pow10Tab
  p10 : ∀ i, i < 696 → w.cell? ⟨7, i * 2, none⟩ = some (.int .u64 ((pw i).1 : Int)) ∧ w.cell? ⟨7, i * 2 + 1, none⟩ = some (.int .u64 ((pw i).2 : Int))
theorem Lays.mod {w w' : World} {F : Nat → Prop} (h : Lays w) (hm : Mod F w w') (hF : ∀ g, g < 16 → ¬ F g) : Lays w' := by
  refine ⟨?_, fun i hi => ⟨hm.cell (h.p10 i hi).1 (hF 7 (by decide)), hm.cell (h.p10 i hi).2 (hF 7 (by decide))⟩⟩
  have h1 := h.u10
  unfold Lib.TabIs World.var? at *
  have hg : Tryz.prog.globalNamed "internal/strconv.uint64pow10" = some 3 := by kernel_rfl
  rw [hg] at h1 ⊢
  simp only [Option.bind_some] at h1 ⊢
  cases hb : w.heap[(3 : Nat)]? with
  | none => rw [hb] at h1; cases h1
  | some o =>
    rw [hm.heap hb (hF _ (by decide))]
    rw [hb] at h1
    exact h1
theorem Lays.mod0 {w w' : World} (h : Lays w) (hm : Mod (fun _ => False) w w') : Lays w' := h.mod hm (fun _ _ h => h)

theorem prescale_at (w : World) (hw : Lays w) (g : Nat) (hg : w.heap[g]? = some (.cells #[.int .u64 0, .int .u64 0, .int .i64 0] 307 (0, 0))) (e lp : Int) (i s : Nat) (hi : i < 696) (he : -3000 ≤ e ∧ e ≤ 3000) (hl : -3000 ≤ lp ∧ lp ≤ 3000) (hs : -(e + lp + 3) = s) :
    Calls Tryz.prog 251 #[.pointer (some ⟨g, 0, none⟩), .int .i64 e, .int .i64 ((i : Int) - 348), .int .i64 lp] w fun x w' => x = .returned (.tuple #[]) ∧ SclAt w' g (pw i).1 (pw i).2 s ∧ Mod (fun k => k = g) w w' := by
  have c0 : w.cell? ⟨g, 0, none⟩ = some (.int .u64 0) := cell_of hg rfl
  have c1 : w.cell? ⟨g, 1, none⟩ = some (.int .u64 0) := cell_of hg rfl
  have c2 : w.cell? ⟨g, 2, none⟩ = some (.int .i64 0) := cell_of hg rfl
  have f0 : w.frozen? ⟨g, 0, none⟩ = false := fr_of hg
  have f1 : w.frozen? ⟨g, 1, none⟩ = false := fr_of hg
  have f2 : w.frozen? ⟨g, 2, none⟩ = false := fr_of hg
  obtain ⟨hp0, hp1⟩ := hw.p10 i hi
  go_enter Tryz.func251, Tryz.ntmps251
  go_wp2_with fail
  go_end0
  refine ⟨rfl, ⟨cell_of (heap_set (heap_set (heap_set hg))) rfl, cell_of (heap_set (heap_set (heap_set hg))) rfl, cell_of (heap_set (heap_set (heap_set hg))) rfl⟩, ?_⟩
  exact (((Mod.refl (fun k => k = g) w).setCell (fun _ => rfl) _).setCell (fun _ => rfl) _).setCell (fun _ => rfl) _
end Go.Proofs.YtaenebdppkjhoaaGreatDoor
