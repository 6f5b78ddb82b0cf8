/-
  strconv's shortFloat: the shortest number of a float's range.
-/
import Derived.Test.YtaenebdppkjhoaaGreatDoorZa16
import Derived.Deep.DeepCutAuto
import Derived.Deep.CutBlock
namespace Go.Proofs.YtaenebdppkjhoaaGreatDoor
set_option maxRecDepth 20000
open Go.RowKit

theorem log10s_at (x : Int) (h0 : -100000 ≤ x) (h1 : x ≤ 100000) (w : World) (p : Int) (hp : l10P2 x = p) : Calls Tryz.prog 221 #[.int .i64 x] w fun e w' => e = .returned (.int .i64 p) ∧ w' = w := hp ▸ log10p_at x h0 h1 w
theorem skews_at (x : Int) (h0 : -100000 ≤ x) (h1 : x ≤ 100000) (w : World) (p : Int) (hp : skewP x = p) : Calls Tryz.prog 250 #[.int .i64 x] w fun e w' => e = .returned (.int .i64 p) ∧ w' = w := hp ▸ skewed_at x h0 h1 w

theorem vint {k : IntKind} {x y : Int} (h : x = y) : Value.int k x = Value.int k y := by rw [h]
theorem and_one (n : Nat) : bits .and .i64 (n : Int) 1 = ((n % 2 : Nat) : Int) := by
  have := and_pow2 n 1 (by decide)
  have e : bits .and .i64 (n : Int) 1 = n % 2 := this
  rw [e]
  omega
theorem pw_ok : (List.range 696).all (fun i => decide (9223372036854775808 ≤ (pw i).1 ∧ (pw i).1 < 18446744073709551616 ∧ (pw i).2 < 18446744073709551616)) = true := by decide +kernel
theorem pw_in (i : Nat) (h : i < 696) : 9223372036854775808 ≤ (pw i).1 ∧ (pw i).1 < 18446744073709551616 ∧ (pw i).2 < 18446744073709551616 := of_decide_eq_true (List.all_eq_true.1 pw_ok i (List.mem_range.2 h))
theorem scl_ok (m : Nat) (e : Int) (he0 : -1137 ≤ e) (he1 : e ≤ 960) : -348 ≤ (sclOf m e).p ∧ (sclOf m e).p ≤ 347 ∧ 1 ≤ -(e + l2P10 (sclOf m e).p + 3) ∧ -(e + l2P10 (sclOf m e).p + 3) ≤ 60 ∧ (sclOf m e).odd ≤ 1 := by
  unfold sclOf
  split
  · simp only
    unfold l2P10 skewP
    omega
  · split
    · simp only
      unfold l2P10 l10P2
      omega
    · simp only
      rw [show e + (11 + (-1085 - e)) = -1074 by omega]
      unfold l2P10 l10P2
      omega
theorem or_one_le (a : Nat) : a ||| 1 ≤ a + 1 := by rw [or_one]; omega
theorem or_bit_le (a b : Nat) (hb : b = 0 ∨ b = 1) : a ≤ a ||| b ∧ a ||| b ≤ a + 1 := by
  rcases hb with rfl | rfl
  · simp
  · rw [or_one]; omega
theorem usc_le (x hi lo s : Nat) (hx : x < 18446744073709551616) (hh : hi < 18446744073709551616) (hs : 1 ≤ s) : usc x hi lo s ≤ 9223372036854775809 := by
  have h1 : x * hi / W64 < 18446744073709551616 := Nat.div_lt_of_lt_mul (Nat.mul_lt_mul'' hx hh)
  have h2 : ∀ H, H < 18446744073709551616 → H / 2 ^ s ≤ 9223372036854775808 := fun H hH => by
    have : 2 ^ 1 ≤ 2 ^ s := Nat.pow_le_pow_right (by decide) hs
    have h3 : H / 2 ^ s ≤ H / 2 ^ 1 := Nat.div_le_div_left this (by decide)
    omega
  unfold usc
  split
  · refine Nat.le_trans (or_bit_le _ _ ?_).2 (Nat.succ_le_succ (h2 _ (Nat.lt_of_le_of_lt (Nat.sub_le _ _) h1)))
    split
    · exact .inr rfl
    · exact .inl rfl
  · exact Nat.le_trans (or_one_le _) (Nat.succ_le_succ (h2 _ h1))
theorem usc_pos (x hi lo s : Nat) (hx : 9223372036854775808 ≤ x) (hh : 9223372036854775808 ≤ hi) (hs : s ≤ 60) : 1 ≤ usc x hi lo s := by
  have h1 : 4611686018427387904 ≤ x * hi / W64 := by
    rw [Nat.le_div_iff_mul_le (by decide)]
    exact Nat.le_trans (by decide) (Nat.mul_le_mul hx hh)
  have h2 : ∀ H, 4611686018427387903 ≤ H → 1 ≤ H / 2 ^ s := fun H hH => by
    have : 2 ^ s ≤ 2 ^ 60 := Nat.pow_le_pow_right (by decide) hs
    rw [Nat.le_div_iff_mul_le (Nat.two_pow_pos s)]
    omega
  unfold usc
  split
  · refine Nat.le_trans (h2 _ ?_) (or_bit_le _ _ ?_).1
    · split <;> omega
    · split
      · exact .inr rfl
      · exact .inl rfl
  · exact Nat.le_trans (h2 _ (by omega)) (or_bit_le _ _ (.inr rfl)).1

set_option maxHeartbeats 4000000 in
theorem short_at (w : World) (hw : Lays w) (m : Nat) (e : Int) (hm0 : 9223372036854775808 ≤ m) (hm1 : m < 18446744073709551616) (he0 : -1137 ≤ e) (he1 : e ≤ 960) (hmx : (sclOf m e).mx < 18446744073709551616) :
    Calls Tryz.prog 236 #[.int .u64 m, .int .i64 e] w fun x w' => x = .returned (.tuple #[.int .u64 (shortF m e).1, .int .i64 (shortF m e).2]) ∧ Mod (fun _ => False) w w' := by
  obtain ⟨c, hc⟩ : ∃ c, sclOf m e = c := ⟨_, rfl⟩
  rw [hc] at hmx
  have Hw := Lib.hid hw
  have Hc := Lib.hid hc
  have Hmx := Lib.hid hmx
  clear hw hc hmx
  go_enter Tryz.func236, Tryz.ntmps236
  go_upto_region 12 with fail
  go_cut [28] from 22 to 27 (fun t wx => t = .bool (decide (m = 2 ^ 63 ∧ -1085 < e)) ∧ wx = w)
  case first =>
    by_cases h1 : m = 9223372036854775808
    · have hb : ((m : Int) == 9223372036854775808) = true := by rw [beq_iff_eq]; omega
      by_cases h2 : -1085 < e
      · have hd : decide (m = 2 ^ 63 ∧ -1085 < e) = true := decide_eq_true ⟨h1, h2⟩
        have Hd := Lib.hid hd
        clear hd h1
        go_wp2_with fail
        go_meet
        case rel => exact ⟨by rw [Hd.out], rfl⟩
      · have hd : decide (m = 2 ^ 63 ∧ -1085 < e) = false := decide_eq_false (fun h => h2 h.2)
        have h3 : decide (-1085 < e) = false := decide_eq_false h2
        have Hd := Lib.hid hd
        clear hd h1 h2
        go_wp2_with fail
        go_meet
        case rel => exact ⟨by rw [Hd.out], rfl⟩
    · have hb : ((m : Int) == 9223372036854775808) = false := by rw [beq_eq_false_iff_ne]; omega
      have hd : decide (m = 2 ^ 63 ∧ -1085 < e) = false := decide_eq_false (fun h => h1 h.1)
      have Hd := Lib.hid hd
      clear hd h1
      go_wp2_with fail
      go_meet
      case rel => exact ⟨by rw [Hd.out], rfl⟩
  case rest =>
    obtain ⟨rfl, rfl⟩ := hcut
    obtain ⟨w0, rfl⟩ : ∃ w0 : World, w0 = wc := ⟨_, rfl⟩
    go_upto_if 28 with fail
    go_cut [5, 8, 9, 10, 11] from 28 to 96 (fun pv mn mx od z wx => pv = .int .i64 c.p ∧ mn = .int .u64 c.mn ∧ mx = .int .u64 c.mx ∧ od = .int .i64 c.odd ∧ wx = w0)
    case first =>
      by_cases h1 : m = 2 ^ 63 ∧ -1085 < e
      · obtain ⟨h0, h2⟩ := h1
        have hcs : c = ⟨m - 2 ^ 9, m + 2 ^ 10, m / 2 ^ 11 % 2, -skewP (e + 11)⟩ := by rw [← Hc.out]; unfold sclOf; rw [if_pos ⟨h0, h2⟩]
        obtain ⟨p, hp⟩ : ∃ p, skewP (e + 11) = p := ⟨_, rfl⟩
        have hsk := skews_at (e + 11) (by omega) (by omega) w0 p hp
        have hp0 : -400 ≤ p ∧ p ≤ 400 := by rw [← hp]; unfold skewP; omega
        have hd : decide (m = 2 ^ 63 ∧ -1085 < e) = true := decide_eq_true ⟨h0, h2⟩
        rw [hd]
        have hm2 : (m : Int) + 1024 < 18446744073709551616 := by omega
        have hm3 : (512 : Int) ≤ m := by omega
        have Hsk := Lib.hid hsk
        have Hcs := Lib.hid hcs
        have Hp := Lib.hid hp
        have H0 := Lib.hid h0
        clear hsk hcs hp h0 hd
        go_wp2_with fail
        refine Hsk.out.mono ?_
        rintro x w1 ⟨rfl, rfl⟩
        go_wp2_with fail
        go_meet
        case rel =>
          have hv := and_one (m / 2048)
          rw [Hcs.out]
          refine ⟨vint (by rw [Hp.out]), vint (show (m : Int) - 512 = ((m - 2 ^ 9 : Nat) : Int) by omega), vint (show (m : Int) + 1024 = ((m + 2 ^ 10 : Nat) : Int) by omega), vint ?_, rfl⟩
          rw [show ((m : Int) / 2048) = ((m / 2048 : Nat) : Int) by omega, hv]
      · by_cases h2 : -1085 ≤ e
        · have hcs : c = ⟨m - 2 ^ 10, m + 2 ^ 10, m / 2 ^ 11 % 2, -l10P2 (e + 11)⟩ := by rw [← Hc.out]; unfold sclOf; rw [if_neg h1, if_pos h2]
          obtain ⟨p, hp⟩ : ∃ p, l10P2 (e + 11) = p := ⟨_, rfl⟩
          have hsk := log10s_at (e + 11) (by omega) (by omega) w0 p hp
          have hp0 : -400 ≤ p ∧ p ≤ 400 := by rw [← hp]; unfold l10P2; omega
          have hd : decide (m = 2 ^ 63 ∧ -1085 < e) = false := decide_eq_false h1
          rw [hd]
          have hm2 : (m : Int) + 1024 < 18446744073709551616 := by have := Hmx.out; rw [hcs] at this; simp only at this; omega
          have hm3 : (1024 : Int) ≤ m := by omega
          have Hsk := Lib.hid hsk
          have Hcs := Lib.hid hcs
          have Hp := Lib.hid hp
          clear hsk hcs hp hd h1
          go_wp2_with fail
          refine Hsk.out.mono ?_
          rintro x w1 ⟨rfl, rfl⟩
          go_wp2_with fail
          go_meet
          case rel =>
            have hv := and_one (m / 2048)
            rw [Hcs.out]
            refine ⟨vint (by rw [Hp.out]), vint (show (m : Int) - 1024 = ((m - 2 ^ 10 : Nat) : Int) by omega), vint (show (m : Int) + 1024 = ((m + 2 ^ 10 : Nat) : Int) by omega), vint ?_, rfl⟩
            rw [show ((m : Int) / 2048) = ((m / 2048 : Nat) : Int) by omega, hv]
        · obtain ⟨k, rfl⟩ : ∃ k : Nat, e = -1074 - k := ⟨(-1074 - e).toNat, by omega⟩
          have hk : 11 < k ∧ k ≤ 63 := by omega
          have hcs : c = ⟨m - 2 ^ (k - 1), m + 2 ^ (k - 1), m / 2 ^ k % 2, -l10P2 (-1074)⟩ := by
            rw [← Hc.out]
            unfold sclOf
            rw [if_neg h1, if_neg h2]
            have e1 : (11 + (-1085 - (-1074 - (k : Int)))).toNat = k := by omega
            have e2 : (-1074 - (k : Int)) + (11 + (-1085 - (-1074 - (k : Int)))) = -1074 := by omega
            rw [e1, e2]
          obtain ⟨p, hp⟩ : ∃ p, l10P2 (-1074) = p := ⟨_, rfl⟩
          have hsk := log10s_at (-1074) (by omega) (by omega) w0 p hp
          have hp0 : -400 ≤ p ∧ p ≤ 400 := by rw [← hp]; unfold l10P2; omega
          have hd : decide (m = 2 ^ 63 ∧ -1085 < -1074 - (k : Int)) = false := decide_eq_false h1
          rw [hd]
          have hk0 : (1 : Int) ≤ k := by omega
          have hk1 : (k : Int) ≤ 63 := by omega
          have hkk : 11 + (-1085 - (-1074 - (k : Int))) = k := by omega
          have hle : -1074 - (k : Int) < -1085 := by omega
          have Hsk := Lib.hid hsk
          have Hcs := Lib.hid hcs
          have Hp := Lib.hid hp
          clear hsk hcs hp hd h1 h2
          go_wp2_with fail
          refine Hsk.out.mono ?_
          rintro x w1 ⟨rfl, rfl⟩
          go_wp2_with fail
          go_meet
          case rel =>
            have hpk : (2 : Int) ^ (k - 1) = ((2 ^ (k - 1) : Nat) : Int) := by push_cast; rfl
            have hpl : 2 ^ (k - 1) ≤ 2 ^ 62 := Nat.pow_le_pow_right (by decide) (by omega)
            have hmx := Hmx.out
            rw [Hcs.out] at hmx ⊢
            simp only at hmx
            rw [hpk]
            obtain ⟨K, hK⟩ : ∃ K, 2 ^ (k - 1) = K := ⟨_, rfl⟩
            rw [hK] at hpl hmx ⊢
            refine ⟨vint (by rw [Hp.out]), vint (show _ = ((m - K : Nat) : Int) from ?_), vint (show _ = ((m + K : Nat) : Int) from ?_), vint ?_, rfl⟩
            · rw [wrap_u64, wrap_u64, Int.emod_eq_of_lt (a := (K : Int)) (by omega) (by omega), Int.emod_eq_of_lt (by omega) (by omega)]
              omega
            · rw [wrap_u64, wrap_u64, Int.emod_eq_of_lt (a := (K : Int)) (by omega) (by omega), Int.emod_eq_of_lt (by omega) (by omega)]
              omega
            · have hdv : m / 2 ^ k ≤ m / 2 ^ 11 := Nat.div_le_div_left (Nat.pow_le_pow_right (by decide) (by omega)) (by decide)
              have e1 : ((m : Int) / 2 ^ k) = ((m / 2 ^ k : Nat) : Int) := by push_cast; rfl
              obtain ⟨D, hD⟩ : ∃ D, m / 2 ^ k = D := ⟨_, rfl⟩
              rw [hD] at hdv e1
              have e2 : wrap64 (D : Int) = (D : Int) := by
                unfold wrap64
                omega
              rw [e1, e2, hD]
              exact and_one D
    case rest =>
      obtain ⟨rfl, rfl, rfl, rfl, rfl⟩ := hcut
      obtain ⟨w0, rfl⟩ : ∃ w0 : World, w0 = wc := ⟨_, rfl⟩
      have hok := scl_ok m e he0 he1
      rw [Hc.out] at hok
      obtain ⟨hp0, hp1, hs0, hs1, hod⟩ := hok
      obtain ⟨i, hi⟩ : ∃ i : Nat, c.p = i - 348 := ⟨(c.p + 348).toNat, by omega⟩
      have hi6 : i < 696 := by omega
      obtain ⟨s, hs⟩ : ∃ s : Nat, -(e + l2P10 c.p + 3) = s := ⟨(-(e + l2P10 c.p + 3)).toNat, by omega⟩
      obtain ⟨hw0, hw1, hw2⟩ := pw_in i hi6
      have hmn : c.mn < 18446744073709551616 := by
        rw [← Hc.out]
        unfold sclOf
        split
        · exact Nat.lt_of_le_of_lt (Nat.sub_le _ _) hm1
        · split <;> exact Nat.lt_of_le_of_lt (Nat.sub_le _ _) hm1
      have hmxl : 9223372036854775808 ≤ c.mx := by
        rw [← Hc.out]
        unfold sclOf
        split
        · exact Nat.le_trans hm0 (Nat.le_add_right _ _)
        · split <;> exact Nat.le_trans hm0 (Nat.le_add_right _ _)
      have hmx := Hmx.out
      obtain ⟨wa, hwa⟩ : ∃ wa : World, w0.alloc (.cells #[.int .u64 0, .int .u64 0, .int .i64 0] 307) = wa := ⟨_, rfl⟩
      have hmwa : Mod (fun _ => False) w0 wa := hwa ▸ (Mod.refl (fun _ => False) w0).alloc _
      have hgwa := heap_alloc_new w0 (.cells #[.int .u64 0, .int .u64 0, .int .i64 0] 307)
      rw [hwa] at hgwa
      have hzwa : wa.heap.size = w0.heap.size + 1 := by rw [← hwa]; simp
      have hl2 := log2p_at c.p (by omega) (by omega) wa
      obtain ⟨lp, hlp⟩ : ∃ lp, l2P10 c.p = lp := ⟨_, rfl⟩
      rw [hlp] at hl2 hs hs0 hs1
      have hpr := prescale_at wa (Hw.out.mod0 hmwa) w0.heap.size hgwa e lp i s hi6 (by omega) (by omega) hs
      rw [hi] at hl2
      obtain ⟨U1, hU1⟩ : ∃ u, usc c.mn (pw i).1 (pw i).2 s = u := ⟨_, rfl⟩
      obtain ⟨U2, hU2⟩ : ∃ u, usc c.mx (pw i).1 (pw i).2 s = u := ⟨_, rfl⟩
      obtain ⟨Um, hUm⟩ : ∃ u, usc m (pw i).1 (pw i).2 s = u := ⟨_, rfl⟩
      have hs63 : s < 64 := by omega
      have hb1 : U1 ≤ 9223372036854775809 := hU1 ▸ usc_le c.mn _ _ s hmn hw1 (by omega)
      have hb2 : U2 ≤ 9223372036854775809 := hU2 ▸ usc_le c.mx _ _ s hmx hw1 (by omega)
      have hbm : Um ≤ 9223372036854775809 := hUm ▸ usc_le m _ _ s hm1 hw1 (by omega)
      have hb3 : 1 ≤ U2 := hU2 ▸ usc_pos c.mx _ _ s hmxl hw0 (by omega)
      have hu1 := fun w h => uscale_at c.mn (pw i).1 (pw i).2 s w0.heap.size hmn hw1 hw2 hs63 (Nat.le_mul_of_pos_right _ (by omega)) w h
      have hu2 := fun w h => uscale_at c.mx (pw i).1 (pw i).2 s w0.heap.size hmx hw1 hw2 hs63 (Nat.le_mul_of_pos_right _ (by omega)) w h
      have hum := fun w h => uscale_at m (pw i).1 (pw i).2 s w0.heap.size hm1 hw1 hw2 hs63 (Nat.le_mul_of_pos_right _ (by omega)) w h
      rw [hU1] at hu1
      rw [hU2] at hu2
      rw [hUm] at hum
      have hdm : dminOf m e = (U1 + c.odd + 3) / 4 := by
        unfold dminOf hiOf loOf sOf
        rw [Hc.out]
        simp only
        rw [show (c.p + 348).toNat = i by omega, hlp, show (-(e + lp + 3)).toNat = s by omega, hU1]
      have hdx : dmaxOf m e = (U2 - c.odd) / 4 := by
        unfold dmaxOf hiOf loOf sOf
        rw [Hc.out]
        simp only
        rw [show (c.p + 348).toNat = i by omega, hlp, show (-(e + lp + 3)).toNat = s by omega, hU2]
      have hsf : shortF m e = if dminOf m e ≤ dmaxOf m e / 10 * 10 then (dmaxOf m e / 10, -(c.p - 1)) else if dminOf m e < dmaxOf m e then (rnd Um, -c.p) else (dminOf m e, -c.p) := by
        unfold shortF hiOf loOf sOf
        rw [Hc.out]
        simp only
        rw [show (c.p + 348).toNat = i by omega, hlp, show (-(e + lp + 3)).toNat = s by omega, hUm]
      rw [hdm, hdx] at hsf
      rw [hi]
      rw [hi] at hsf
      have hod2 : (c.odd : Int) = 0 ∨ (c.odd : Int) = 1 := by omega
      have Hwa := Lib.hid hwa
      have Hmwa := Lib.hid hmwa
      have Hgwa := Lib.hid hgwa
      have Hl2 := Lib.hid hl2
      have Hpr := Lib.hid hpr
      have Hu1 := Lib.hid hu1
      have Hu2 := Lib.hid hu2
      have Hum := Lib.hid hum
      have HU1 := Lib.hid hU1
      have HU2 := Lib.hid hU2
      have HUm := Lib.hid hUm
      have Hdm := Lib.hid hdm
      have Hdx := Lib.hid hdx
      have Hsf := Lib.hid hsf
      have Hlp := Lib.hid hlp
      have Hi := Lib.hid hi
      have Hs := Lib.hid hs
      have Hw0 := Lib.hid hw0
      have Hw1 := Lib.hid hw1
      have Hw2 := Lib.hid hw2
      clear hwa hmwa hgwa hl2 hpr hu1 hu2 hum hU1 hU2 hUm hdm hdx hsf hlp hi hs hw0 hw1 hw2 hzwa Hw hmx
      go_wp2_with (first | (rw [show w0.alloc _ = wa from Hwa.out]) | fail)
      refine Hl2.out.mono ?_
      rintro x w1 ⟨rfl, rfl⟩
      go_wp2_with fail
      refine Hpr.out.mono ?_
      rintro x w2 ⟨rfl, hS2, hm2⟩
      have hm02 : Mod (fun _ => False) w0 w2 := Hmwa.out.upon hm2 (fun b hb => .inr (by omega))
      have hua := Hu1.out w2 hS2
      have HS2 := Lib.hid hS2
      have Hm02 := Lib.hid hm02
      have Hua := Lib.hid hua
      clear hS2 hm02 hua hm2 Hpr
      go_wp2_with fail
      refine Hua.out.mono ?_
      rintro x w3 ⟨rfl, hm3⟩
      have hS3 : SclAt w3 w0.heap.size (pw i).1 (pw i).2 s := ⟨hm3.cell HS2.out.1 (fun h => h), hm3.cell HS2.out.2.1 (fun h => h), hm3.cell HS2.out.2.2 (fun h => h)⟩
      have hm03 := Hm02.out.trans hm3 (fun _ _ h => h)
      have hn1 := nudge_at U1 c.odd (by omega) (by omega) w3
      obtain ⟨V1, hV1⟩ : ∃ v, U1 + c.odd = v := ⟨_, rfl⟩
      rw [show ((U1 : Int) + (c.odd : Int)) = (V1 : Int) by omega] at hn1
      have hc1 := ceil_at V1 (by omega) w3
      obtain ⟨A, hA⟩ : ∃ a, (V1 + 3) / 4 = a := ⟨_, rfl⟩
      rw [hA] at hc1
      have hAl : A ≤ 4611686018427387904 := by omega
      have hub := Hu2.out w3 hS3
      have HS3 := Lib.hid hS3
      have Hm03 := Lib.hid hm03
      have Hn1 := Lib.hid hn1
      have Hc1 := Lib.hid hc1
      have HV1 := Lib.hid hV1
      have HA := Lib.hid hA
      have Hub := Lib.hid hub
      clear hS3 hm03 hn1 hc1 hV1 hA hub hm3 Hua HS2 Hm02
      go_wp2_with fail
      refine Hn1.out.mono ?_
      rintro x w4 ⟨rfl, rfl⟩
      go_wp2_with fail
      refine Hc1.out.mono ?_
      rintro x w5 ⟨rfl, rfl⟩
      go_wp2_with fail
      refine Hub.out.mono ?_
      rintro x w6 ⟨rfl, hm6⟩
      have hS6 : SclAt w6 w0.heap.size (pw i).1 (pw i).2 s := ⟨hm6.cell HS3.out.1 (fun h => h), hm6.cell HS3.out.2.1 (fun h => h), hm6.cell HS3.out.2.2 (fun h => h)⟩
      have hm06 := Hm03.out.trans hm6 (fun _ _ h => h)
      have hn2 := nudge_at U2 (-(c.odd : Int)) (by omega) (by omega) w6
      obtain ⟨V2, hV2⟩ : ∃ v, U2 - c.odd = v := ⟨_, rfl⟩
      rw [show ((U2 : Int) + -(c.odd : Int)) = (V2 : Int) by omega] at hn2
      have hc2 := floor_at V2 (by omega) w6
      obtain ⟨B, hB⟩ : ∃ a, V2 / 4 = a := ⟨_, rfl⟩
      rw [hB] at hc2
      have hBl : B ≤ 4611686018427387904 := by omega
      have huc := Hum.out w6 hS6
      have hsf := Hsf.out
      rw [HV1.out, hV2, HA.out, hB] at hsf
      have hrn := round_at Um (by omega) 
      have HS6 := Lib.hid hS6
      have Hm06 := Lib.hid hm06
      have Hn2 := Lib.hid hn2
      have Hc2 := Lib.hid hc2
      have HV2 := Lib.hid hV2
      have HB := Lib.hid hB
      have Huc := Lib.hid huc
      have Hrn := Lib.hid hrn
      clear hS6 hm06 hn2 hc2 hV2 hB huc hrn hm6 HS3 Hm03 Hn1 Hc1
      go_wp2_with fail
      refine Hn2.out.mono ?_
      rintro x w7 ⟨rfl, rfl⟩
      go_wp2_with fail
      refine Hc2.out.mono ?_
      rintro x w8 ⟨rfl, rfl⟩
      by_cases h1 : A ≤ B / 10 * 10
      · rw [if_pos h1] at hsf
        have h1' : (A : Int) ≤ (B : Int) / 10 * 10 := by omega
        have Hsf2 := Lib.hid hsf
        clear hsf
        go_wp2_with fail
        go_ret2
        refine ⟨?_, Hm06.out⟩
        rw [Hsf2.out]
        congr 3
      · rw [if_neg h1] at hsf
        have h1' : (B : Int) / 10 * 10 < A := by omega
        by_cases h2 : A < B
        · rw [if_pos h2] at hsf
          have h2' : (A : Int) < B := by omega
          have Hsf2 := Lib.hid hsf
          clear hsf
          go_wp2_with fail
          refine Huc.out.mono ?_
          rintro x w9 ⟨rfl, hm9⟩
          have hm09 := Hm06.out.trans hm9 (fun _ _ h => h)
          have hrr := Hrn.out w9
          have Hm09 := Lib.hid hm09
          have Hrr := Lib.hid hrr
          clear hm09 hrr hm9
          go_wp2_with fail
          refine Hrr.out.mono ?_
          rintro x wA ⟨rfl, rfl⟩
          go_wp2_with fail
          go_ret2
          exact ⟨by rw [Hsf2.out]; rfl, Hm09.out⟩
        · rw [if_neg h2] at hsf
          have h2' : (B : Int) ≤ A := by omega
          have Hsf2 := Lib.hid hsf
          clear hsf
          go_wp2_with fail
          go_ret2
          exact ⟨by rw [Hsf2.out]; rfl, Hm06.out⟩
end Go.Proofs.YtaenebdppkjhoaaGreatDoor
