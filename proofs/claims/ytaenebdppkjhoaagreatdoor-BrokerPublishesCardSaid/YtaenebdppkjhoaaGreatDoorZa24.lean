/-
  strconv's ftoa64. (Begun.)
-/
import Derived.Test.YtaenebdppkjhoaaGreatDoorZa22
import Derived.Test.YtaenebdppkjhoaaGreatDoorZa23
import Derived.Deep.DeepCutAuto
import Derived.Deep.CutBlock
import Derived.Test.YtaenebdppkjhoaaGreatDoorZa4
namespace Go.Proofs.YtaenebdppkjhoaaGreatDoor
set_option maxRecDepth 20000
open Go.RowKit

theorem dec_lt (d : Nat) : d < 10 ^ Lib.nDigits d := by
  induction d using Nat.strongRecOn with
  | ind d ih =>
    by_cases h : d < 10
    · rw [Lib.nDigits_small h]; omega
    · rw [Lib.nDigits_big h, Nat.pow_succ]
      have := ih (d / 10) (by omega)
      omega
/-- What ftoa64 leaves. -/
def FtoaPost (F : Nat → Prop) (w : World) (t : List UInt8) (e : Ending) (w' : World) : Prop := ∃ v', e = .returned v' ∧ Buf F w w' v' t
theorem bitAux_log : ∀ (f m : Nat), 0 < m → m < 2 ^ f → Lib.bitLenAux f m = m.log2 + 1 := by
  intro f
  induction f with
  | zero => intro m h1 h2; omega
  | succ f ih =>
    intro m h1 h2
    rw [Lib.bitLenAux, if_neg (by omega)]
    rcases Nat.lt_or_ge m 2 with h3 | h3
    · have : m = 1 := by omega
      subst this
      cases f <;> rfl
    · have hk0 : m / 2 ≠ 0 := by omega
      rw [ih (m / 2) (by omega) (by rw [Nat.pow_succ] at h2; omega)]
      have a := Nat.log2_self_le hk0
      have c := @Nat.lt_log2_self (m / 2)
      have := @log2_of m ((m / 2).log2 + 1) (by rw [Nat.pow_succ]; omega) (by rw [Nat.pow_succ]; omega)
      omega
theorem bitLen_log (m : Nat) (h : 0 < m) (h2 : m < 2 ^ 64) : Lib.bitLen m = m.log2 + 1 := bitAux_log 64 m h h2
theorem neg_dec {b : Nat} {neg : Bool} (h : ((b : Int) / 9223372036854775808 != 0) = neg) : decide (b / 2 ^ 63 ≠ 0) = neg := by
  rw [← h, Bool.eq_iff_iff, decide_eq_true_eq, bne_iff_ne]
  omega
set_option maxHeartbeats 4000000 in
theorem ftoa_at (w : World) (hw : Lays w) (F : Nat → Prop) (v : Value) (b : Nat) (hb64 : b < 18446744073709551616) (hfin : b / 4503599627370496 % 2048 < 2047) (hb : Buf F w w v []) (hF : ∀ g, g < 16 → ¬ F g) (hFn : ∀ g, w.heap.size ≤ g → ¬ F g) :
    Calls Tryz.prog 203 #[v, .float .f64 b, .int .u8 103, .int .i64 (-1)] w (FtoaPost F w (fltT b)) := by
  obtain ⟨ad, cap, rfl, -⟩ := hb.own.shape
  have hs := call_sbits b w
  obtain ⟨ex, hex⟩ : ∃ ex, b / 4503599627370496 % 2048 = ex := ⟨_, rfl⟩
  obtain ⟨mt, hmt⟩ : ∃ mt, b % 4503599627370496 = mt := ⟨_, rfl⟩
  obtain ⟨neg, hng⟩ : ∃ neg, ((b : Int) / 9223372036854775808 != 0) = neg := ⟨_, rfl⟩
  have e1 : bits .and .i64 ((b : Int) / 4503599627370496) 2047 = ex := by
    have h := and_pow2 ((b : Int) / 4503599627370496) 11 (by decide)
    rw [← hex]
    refine h.trans ?_
    show (b : Int) / 4503599627370496 % (2048 : Int) = _
    omega
  have e2 : bits .and .u64 (b : Int) 4503599627370495 = mt := by
    have h := and_u64 b 52 (by decide) hb64
    rw [← hmt]
    exact h
  have hexl : ex < 2048 := by omega
  have hmtl : mt < 4503599627370496 := by omega
  rw [hex] at hfin
  have hf1 : ¬ ((ex : Int) = 2047) := by omega
  have hf2 : ((ex : Int) == 2047) = false := by rw [beq_eq_false_iff_ne]; exact hf1
  obtain ⟨t, htt⟩ : ∃ t, fltT b = t := ⟨_, rfl⟩
  rw [htt]
  have hr1 : b % 2 ^ 63 / 2 ^ 52 = ex := by omega
  have hr2 : b % 2 ^ 63 % 2 ^ 52 = mt := by omega
  have Hb := Lib.hid hb
  have Hw := Lib.hid hw
  have Hex := Lib.hid hex
  have Hmt := Lib.hid hmt
  have Htt := Lib.hid htt
  have Hr1 := Lib.hid hr1
  have Hr2 := Lib.hid hr2
  have HF := Lib.hid hF
  have HFn := Lib.hid hFn
  clear hb hw hex hmt htt hr1 hr2 hF hFn
  go_enter Tryz.func203, Tryz.ntmps203
  go_wp2_with fail
  go_quiet (fail)
  go_upto_if 78 with fail
  go_cut [14, 15] from 78 to 84 (fun ev mv wx => ev = .int .i64 (if ex = 0 then 1 else ex : Nat) ∧ mv = .int .u64 (if ex = 0 then mt else mt + 4503599627370496 : Nat) ∧ Mod (fun _ => False) w wx)
  case first =>
    by_cases h0 : ex = 0
    · have h0' : ((ex : Int) == 0) = true := by rw [beq_iff_eq]; omega
      have i1 : (ex : Int) + 1 = ((if ex = 0 then 1 else ex : Nat) : Int) := by rw [if_pos h0]; omega
      have i2 : (if ex = 0 then mt else mt + 4503599627370496 : Nat) = mt := if_pos h0
      have I1 := Lib.hid i1
      have I2 := Lib.hid i2
      clear i1 i2 h0
      go_wp2_with fail
      go_meet
      case rel => exact ⟨vint I1.out, vint (by rw [I2.out]), (Mod.refl _ _).drewN _⟩
    · have h0' : ((ex : Int) == 0) = false := by rw [beq_eq_false_iff_ne]; omega
      have i1 : (ex : Int) = ((if ex = 0 then 1 else ex : Nat) : Int) := by rw [if_neg h0]
      have i2 : ((if ex = 0 then mt else mt + 4503599627370496 : Nat) : Int) = ((mt + 4503599627370496 : Nat) : Int) := by rw [if_neg h0]
      have i3 := or_u64 mt hmtl
      have I1 := Lib.hid i1
      have I2 := Lib.hid i2
      clear i1 i2 h0
      go_wp2_with fail
      go_meet
      case rel => exact ⟨vint I1.out, vint (by rw [I2.out]; omega), (Mod.refl _ _).drewN _⟩
  case rest =>
    obtain ⟨rfl, rfl, hmc⟩ := hcut
    obtain ⟨w0, rfl⟩ : ∃ w0 : World, w0 = wc := ⟨_, rfl⟩
    obtain ⟨ee, hee⟩ : ∃ ee : Nat, (if ex = 0 then 1 else ex : Nat) = ee := ⟨_, rfl⟩
    obtain ⟨m, hm⟩ : ∃ m : Nat, (if ex = 0 then mt else mt + 4503599627370496 : Nat) = m := ⟨_, rfl⟩
    have hee1 : 1 ≤ ee ∧ ee < 2047 := by rw [← hee]; split <;> omega
    have hm1 : m < 9007199254740992 := by rw [← hm]; split <;> omega
    rw [hee, hm]
    obtain ⟨hee2, hee3⟩ := hee1
    have hb0 := Hb.out.rebase hmc
    have hw0 := Hw.out.mod0 hmc
    have hee4 : (1 : Int) ≤ ee := by omega
    have Hee := Lib.hid hee
    have Hm := Lib.hid hm
    have Hmc := Lib.hid hmc
    have Hb0 := Lib.hid hb0
    have Hw0 := Lib.hid hw0
    clear hee hm hmc hb0 hw0 Hb Hw
    by_cases h0 : m = 0
    · have h0' : ((m : Int) == 0) = true := by rw [beq_iff_eq]; omega
      have hz := Lib.hid (fmtz_at F w0 (.slice ad 0 cap) neg Hb0.out)
      have Hh0 := Lib.hid h0
      clear h0
      go_wp2_with fail
      refine hz.out.mono ?_
      rintro x w1 ⟨v1, rfl, hb1⟩
      go_wp2
      go_ret
      refine ⟨v1, rfl, ?_⟩
      have h2 : fltT b = sgnT neg ++ [48] := by
        have h3 := Hm.out
        have h4 := Hh0.out
        have h5 := Hr1.out
        have h6 := Hr2.out
        have h7 : ex = 0 := by
          by_cases h : ex = 0
          · exact h
          · rw [if_neg h] at h3; omega
        rw [if_pos h7] at h3
        unfold fltT
        rw [neg_dec hng, if_neg (by omega), if_pos (by omega)]
        rfl
      rw [← Htt.out, h2]
      exact hb1.under Hmc.out
    · have h0' : ((m : Int) == 0) = false := by rw [beq_eq_false_iff_ne]; omega
      have hbl := fun wx => Tryz.bits_Len64 (m : Int) wx (by omega) (by omega)
      rw [Int.toNat_natCast, bitLen_log m (by omega) (by omega)] at hbl
      have hl52 : m.log2 ≤ 52 := Nat.le_of_lt_succ ((Nat.log2_lt (by omega)).2 (by omega))
      obtain ⟨L, hL⟩ : ∃ L, m.log2 + 1 = L := ⟨_, rfl⟩
      rw [hL] at hbl
      have hL1 : 1 ≤ L := by omega
      have hL53 : L ≤ 53 := by omega
      -- the parts
      have hmt2 := Hr2.out
      have hex2 := Hr1.out
      have hm2 := Hm.out
      have hee2 := Hee.out
      obtain ⟨r, hr⟩ : ∃ r, b % 2 ^ 63 = r := ⟨_, rfl⟩
      rw [hr] at hmt2 hex2
      have hmant : mant r = m := by
        unfold mant
        rw [hex2, hmt2, ← hm2]
        split
        · omega
        · rfl
      have hsh : sh r = 64 - L := by unfold sh; rw [hmant]; omega
      have hM : mOf r = m * 2 ^ (64 - L) := by unfold mOf; rw [hmant, hsh]
      have hE : eOf r = (ee : Int) + -1023 - (64 - (L : Int)) - 52 := by
        unfold eOf expo
        rw [hex2, hsh, hee2]
        omega
      have hr1 : 1 ≤ r := by
        rcases Nat.eq_zero_or_pos r with h | h
        · exfalso
          subst h
          unfold mant at hmant
          simp at hmant
          omega
        · exact h
      have hr2 : r < 2047 * 2 ^ 52 := by omega
      obtain ⟨p1, p2, p3, p4, p5⟩ := parts_ok r hr1 hr2
      obtain ⟨d, p, hs⟩ := short_of r hr1 hr2
      have hsw := fun wx hx => short_at wx hx (mOf r) (eOf r) p1 p2 p3 p4 p5
      rw [hs.is] at hsw
      have hMw : IntKind.u64.wrap ((m : Int) * 2 ^ (64 - L)) = (mOf r : Nat) := by
        rw [wrap_u64, hM]
        have : ((m * 2 ^ (64 - L) : Nat) : Int) = (m : Int) * 2 ^ (64 - L) := by
          rw [Int.natCast_mul, Int.natCast_pow]; rfl
        rw [← this, ← hM]
        omega
      obtain ⟨M, hMM⟩ : ∃ M, mOf r = M := ⟨_, rfl⟩
      obtain ⟨E, hEE⟩ : ∃ E, eOf r = E := ⟨_, rfl⟩
      rw [hEE] at hE hsw
      rw [hMM] at hMw hsw
      obtain ⟨wa, hwa⟩ : ∃ wa : World, w0.alloc (.cells #[.int .u8 0, .int .u8 0, .int .u8 0, .int .u8 0, .int .u8 0, .int .u8 0, .int .u8 0, .int .u8 0, .int .u8 0, .int .u8 0, .int .u8 0, .int .u8 0, .int .u8 0, .int .u8 0, .int .u8 0, .int .u8 0, .int .u8 0, .int .u8 0, .int .u8 0, .int .u8 0, .int .u8 0, .int .u8 0, .int .u8 0, .int .u8 0, .int .u8 0, .int .u8 0, .int .u8 0, .int .u8 0, .int .u8 0, .int .u8 0, .int .u8 0, .int .u8 0] 286) = wa := ⟨_, rfl⟩
      have hm1 : Mod (fun _ => False) w0 wa := hwa ▸ (Mod.refl (fun _ => False) w0).alloc _
      have hg1 : wa.heap[w0.heap.size]? = some (.cells #[.int .u8 0, .int .u8 0, .int .u8 0, .int .u8 0, .int .u8 0, .int .u8 0, .int .u8 0, .int .u8 0, .int .u8 0, .int .u8 0, .int .u8 0, .int .u8 0, .int .u8 0, .int .u8 0, .int .u8 0, .int .u8 0, .int .u8 0, .int .u8 0, .int .u8 0, .int .u8 0, .int .u8 0, .int .u8 0, .int .u8 0, .int .u8 0, .int .u8 0, .int .u8 0, .int .u8 0, .int .u8 0, .int .u8 0, .int .u8 0, .int .u8 0, .int .u8 0] 286 (0, 0)) := hwa ▸ heap_alloc_new w0 _
      have hw1 := Hw0.out.mod0 hm1
      have hpos := hr1
      have Hpos := Lib.hid hpos
      have Hbl := Lib.hid hbl
      have HL := Lib.hid hL
      have Hwa := Lib.hid hwa
      have HM := Lib.hid hM
      have HE := Lib.hid hE
      have HMw := Lib.hid hMw
      have HMM := Lib.hid hMM
      have HEE := Lib.hid hEE
      have Hsw := Lib.hid hsw
      have Hs := Lib.hid hs
      have Hr := Lib.hid hr
      have Hsh := Lib.hid hsh
      have Hmant := Lib.hid hmant
      have Hm1 := Lib.hid hm1
      have Hg1 := Lib.hid hg1
      have Hw1 := Lib.hid hw1
      clear hpos hbl hL hwa hM hE hMw hMM hEE hsw hs hr hsh hmant hm1 hg1 hw1 hl52 p1 p2 p3 p4 p5 hr1 hr2 hmt2 hex2 hm2 hee2
      go_wp2_with (first | (rw [show w0.alloc _ = wa from Hwa.out]) | fail)
      refine (Hbl.out _).mono ?_
      rintro x w1 ⟨rfl, rfl⟩
      go_wp2_with fail
      rw [show IntKind.u64.wrap ((m : Int) * 2 ^ (64 - L)) = (M : Nat) from HMw.out, show (ee : Int) + -1023 - (64 - (L : Int)) - 52 = E from HE.out.symm]
      refine (Hsw.out _ Hw1.out).mono ?_
      rintro x w2 ⟨rfl, hm2⟩
      have hw2 := Hw1.out.mod0 hm2
      have hg2 := hm2.heap Hg1.out (fun h => h)
      have hdp := Hs.out.pos
      have hdl := Hs.out.lt
      have hplo := Hs.out.lo
      have hphi := Hs.out.hi
      have hnd := nd_le d hdl
      have hdt := digT_is d hdp
      have hsd := fun (wx : World) (hx : Mod (fun _ => False) w2 wx) => setdig_at wx w0.heap.size #[.int .u8 0, .int .u8 0, .int .u8 0, .int .u8 0, .int .u8 0, .int .u8 0, .int .u8 0, .int .u8 0, .int .u8 0, .int .u8 0, .int .u8 0, .int .u8 0, .int .u8 0, .int .u8 0, .int .u8 0, .int .u8 0, .int .u8 0, .int .u8 0, .int .u8 0, .int .u8 0, .int .u8 0, .int .u8 0, .int .u8 0, .int .u8 0, .int .u8 0, .int .u8 0, .int .u8 0, .int .u8 0, .int .u8 0, .int .u8 0, .int .u8 0, .int .u8 0] 286 d (Lib.nDigits d) p (hx.heap hg2 (fun h => h)) (fun j hj => by
        have : j < 32 := hj
        rcases j with _ | _ | _ | _ | _ | _ | _ | _ | _ | _ | _ | _ | _ | _ | _ | _ | _ | _ | _ | _ | _ | _ | _ | _ | _ | _ | _ | _ | _ | _ | _ | _ | j
        all_goals first | rfl | omega) (by omega) rfl (by omega) (dec_lt d) (by omega)
      have hnum := fun (wx : World) (hx : Mod (fun _ => False) w2 wx) => Tryz.internal_strconv_numDigits d (by omega) (by omega) wx (hw2.mod0 hx).u10
      obtain ⟨nd, hndd⟩ : ∃ n, Lib.nDigits d = n := ⟨_, rfl⟩
      rw [hndd] at hsd hnum hnd
      obtain ⟨tn, htn⟩ : ∃ n, trimN (Lib.decDigits d) = n := ⟨_, rfl⟩
      rw [htn] at hsd
      have Hm2 := Lib.hid hm2
      have Hw2 := Lib.hid hw2
      have Hg2 := Lib.hid hg2
      have Hsd := Lib.hid hsd
      have Hnum := Lib.hid hnum
      have Hndd := Lib.hid hndd
      have Htn := Lib.hid htn
      have Hdt := Lib.hid hdt
      clear hm2 hw2 hg2 hsd hnum hndd htn hdt hdp hdl
      go_wp2_with fail
      have hS : (fun _ : World => True) w2.drew := trivial
      refine wp_region_script [.rd 0, .rd 1, .rd 2, .rd 3, .go 4, .go 5, .rd 6, .rd 7, .rd 8, .rd 9, .rd 10] [] (fun _ : World => True) (by kernel_rfl) (by kernel_rfl) (fun _ _ d _ _ h => (by cases d <;> exact h)) ?_
      refine walk_rd rfl ?_ (fun _ => hS) ?_ (fun w0 h0 => ?_) (fun K hK => ?_)
      · (try simp only [List.getElem_toArray]); (try simp only [List.getElem_cons_succ]); (try simp only [List.getElem_cons_zero])
        go_simp; done
      rotate_left
      · (try simp only [List.getElem_toArray]); (try simp only [List.getElem_cons_succ]); (try simp only [List.getElem_cons_zero])
        first
          | (obtain - := h0 rfl; clear h0; go_simp; with_reducible rfl)
          | (clear h0; go_simp; with_reducible rfl)
      (try simp only [List.getElem_toArray]); (try simp only [List.getElem_cons_succ]); (try simp only [List.getElem_cons_zero])
      go_simp; refine hK _ ?_; clear hK K
      refine walk_rd rfl ?_ (fun _ => hS) ?_ (fun w0 h0 => ?_) (fun K hK => ?_)
      · (try simp only [List.getElem_toArray]); (try simp only [List.getElem_cons_succ]); (try simp only [List.getElem_cons_zero])
        go_simp; done
      rotate_left
      · (try simp only [List.getElem_toArray]); (try simp only [List.getElem_cons_succ]); (try simp only [List.getElem_cons_zero])
        first
          | (obtain - := h0 rfl; clear h0; go_simp; with_reducible rfl)
          | (clear h0; go_simp; with_reducible rfl)
      (try simp only [List.getElem_toArray]); (try simp only [List.getElem_cons_succ]); (try simp only [List.getElem_cons_zero])
      go_simp; refine hK _ ?_; clear hK K
      refine walk_rd rfl ?_ (fun _ => hS) ?_ (fun w0 h0 => ?_) (fun K hK => ?_)
      · (try simp only [List.getElem_toArray]); (try simp only [List.getElem_cons_succ]); (try simp only [List.getElem_cons_zero])
        go_simp; done
      rotate_left
      · (try simp only [List.getElem_toArray]); (try simp only [List.getElem_cons_succ]); (try simp only [List.getElem_cons_zero])
        first
          | (obtain - := h0 rfl; clear h0; go_simp; with_reducible rfl)
          | (clear h0; go_simp; with_reducible rfl)
      (try simp only [List.getElem_toArray]); (try simp only [List.getElem_cons_succ]); (try simp only [List.getElem_cons_zero])
      go_simp; refine hK _ ?_; clear hK K
      refine walk_rd rfl ?_ (fun _ => hS) ?_ (fun w0 h0 => ?_) (fun K hK => ?_)
      · (try simp only [List.getElem_toArray]); (try simp only [List.getElem_cons_succ]); (try simp only [List.getElem_cons_zero])
        go_simp; done
      rotate_left
      · (try simp only [List.getElem_toArray]); (try simp only [List.getElem_cons_succ]); (try simp only [List.getElem_cons_zero])
        first
          | (obtain - := h0 rfl; clear h0; go_simp; with_reducible rfl)
          | (clear h0; go_simp; with_reducible rfl)
      (try simp only [List.getElem_toArray]); (try simp only [List.getElem_cons_succ]); (try simp only [List.getElem_cons_zero])
      go_simp; refine hK _ ?_; clear hK K
      refine walk_one (go_yes rfl ?_ (fun K hK => ?_))
      · (try simp only [List.getElem_toArray]); (try simp only [List.getElem_cons_succ]); (try simp only [List.getElem_cons_zero])
        go_simp; done
      (try simp only [List.getElem_toArray]); (try simp only [List.getElem_cons_succ]); (try simp only [List.getElem_cons_zero])
      go_wp2_with fail
      refine (Hnum.out _ ((Mod.refl _ _).drew)).mono ?_
      rintro x w3 ⟨rfl, rfl⟩
      go_simp
      refine hK _ _ (fun h => absurd h (by decide)) ?_
      clear hK K
      refine walk_one (go_yes rfl ?_ (fun K hK => ?_))
      · (try simp only [List.getElem_toArray]); (try simp only [List.getElem_cons_succ]); (try simp only [List.getElem_cons_zero])
        go_simp; done
      (try simp only [List.getElem_toArray]); (try simp only [List.getElem_cons_succ]); (try simp only [List.getElem_cons_zero])
      go_wp2_with fail
      refine (Hsd.out _ ((Mod.refl _ _).drew)).mono ?_
      rintro x w4 ⟨rfl, hd4, hm4⟩
      have hm04 : Mod (fun _ => False) w0 w4 := by
        refine Mod.trans (Hm1.out.trans (Hm2.out.drew) (fun _ _ h => h)) (hm4.mono (G := fun k => k = w0.heap.size) (fun _ _ h => h)) (fun b hb h => ?_)
        omega
      have hdT : Digs w4 w0.heap.size (digT d) := fun j u hu => by
        refine hd4 j u ?_
        unfold digT at hu
        rw [List.getElem?_take] at hu
        split at hu
        · exact hu
        · cases hu
      have hlen : (digT d).length = tn := by
        unfold digT
        rw [List.length_take, Htn.out]
        have := trim_le (Lib.decDigits d)
        rw [Htn.out] at this
        omega
      have hdpT : dpT r = (nd : Int) + p := by
        unfold dpT
        rw [Hs.out.is]
        simp only
        rw [Lib.decDigits_length, Hndd.out]
      have htn0 : 0 < tn := by
        rw [← hlen]
        exact List.length_pos_iff.2 Hdt.out.2.1
      have htn1 : tn ≤ 19 := by
        have h1 := Hdt.out.2.2.1
        rw [hlen, Lib.decDigits_length, Hndd.out] at h1
        omega
      have hefg := efg_at F w4 (.slice ad 0 cap) w0.heap.size neg (digT d) (dpT r) (Hb0.out.rebase hm04) hdT (HFn.out _ Hmc.out.size) (by omega) (by omega) (by rw [hdpT]; omega)
      rw [hlen, hdpT] at hefg
      have Hm04 := Lib.hid hm04
      have Hefg := Lib.hid hefg
      have Hlen := Lib.hid hlen
      have HdpT := Lib.hid hdpT
      have Hd4 := Lib.hid hd4
      have Hm4 := Lib.hid hm4
      have HdT := Lib.hid hdT
      clear hm04 hefg hlen hdpT hd4 hm4 hdT
      go_simp
      refine hK _ _ (fun h => absurd h (by decide)) ?_
      clear hK K
      have hS : (fun _ : World => True) w4 := trivial
      refine walk_rd rfl ?_ (fun _ => hS) ?_ (fun w0 h0 => ?_) (fun K hK => ?_)
      · (try simp only [List.getElem_toArray]); (try simp only [List.getElem_cons_succ]); (try simp only [List.getElem_cons_zero])
        go_simp; done
      rotate_left
      · (try simp only [List.getElem_toArray]); (try simp only [List.getElem_cons_succ]); (try simp only [List.getElem_cons_zero])
        first
          | (obtain - := h0 rfl; clear h0; go_simp; with_reducible rfl)
          | (clear h0; go_simp; with_reducible rfl)
      (try simp only [List.getElem_toArray]); (try simp only [List.getElem_cons_succ]); (try simp only [List.getElem_cons_zero])
      go_simp; refine hK _ ?_; clear hK K
      refine walk_rd rfl ?_ (fun _ => hS) ?_ (fun w0 h0 => ?_) (fun K hK => ?_)
      · (try simp only [List.getElem_toArray]); (try simp only [List.getElem_cons_succ]); (try simp only [List.getElem_cons_zero])
        go_simp; done
      rotate_left
      · (try simp only [List.getElem_toArray]); (try simp only [List.getElem_cons_succ]); (try simp only [List.getElem_cons_zero])
        first
          | (obtain - := h0 rfl; clear h0; go_simp; with_reducible rfl)
          | (clear h0; go_simp; with_reducible rfl)
      (try simp only [List.getElem_toArray]); (try simp only [List.getElem_cons_succ]); (try simp only [List.getElem_cons_zero])
      go_simp; refine hK _ ?_; clear hK K
      refine walk_rd rfl ?_ (fun _ => hS) ?_ (fun w0 h0 => ?_) (fun K hK => ?_)
      · (try simp only [List.getElem_toArray]); (try simp only [List.getElem_cons_succ]); (try simp only [List.getElem_cons_zero])
        go_simp; done
      rotate_left
      · (try simp only [List.getElem_toArray]); (try simp only [List.getElem_cons_succ]); (try simp only [List.getElem_cons_zero])
        first
          | (obtain - := h0 rfl; clear h0; go_simp; with_reducible rfl)
          | (clear h0; go_simp; with_reducible rfl)
      (try simp only [List.getElem_toArray]); (try simp only [List.getElem_cons_succ]); (try simp only [List.getElem_cons_zero])
      go_simp; refine hK _ ?_; clear hK K
      refine walk_rd rfl ?_ (fun _ => hS) ?_ (fun w0 h0 => ?_) (fun K hK => ?_)
      · (try simp only [List.getElem_toArray]); (try simp only [List.getElem_cons_succ]); (try simp only [List.getElem_cons_zero])
        go_simp; done
      rotate_left
      · (try simp only [List.getElem_toArray]); (try simp only [List.getElem_cons_succ]); (try simp only [List.getElem_cons_zero])
        first
          | (obtain - := h0 rfl; clear h0; go_simp; with_reducible rfl)
          | (clear h0; go_simp; with_reducible rfl)
      (try simp only [List.getElem_toArray]); (try simp only [List.getElem_cons_succ]); (try simp only [List.getElem_cons_zero])
      go_simp; refine hK _ ?_; clear hK K
      refine walk_rd rfl ?_ (fun _ => hS) ?_ (fun w0 h0 => ?_) (fun K hK => ?_)
      · (try simp only [List.getElem_toArray]); (try simp only [List.getElem_cons_succ]); (try simp only [List.getElem_cons_zero])
        go_simp; done
      rotate_left
      · (try simp only [List.getElem_toArray]); (try simp only [List.getElem_cons_succ]); (try simp only [List.getElem_cons_zero])
        first
          | (obtain - := h0 rfl; clear h0; go_simp; with_reducible rfl)
          | (clear h0; go_simp; with_reducible rfl)
      (try simp only [List.getElem_toArray]); (try simp only [List.getElem_cons_succ]); (try simp only [List.getElem_cons_zero])
      go_simp; refine hK _ ?_; clear hK K
      refine walk_nil ?_
      go_wp2_with fail
      refine Hefg.out.mono ?_
      rintro x w5 ⟨v5, rfl, hb5⟩
      have Hb5 := Lib.hid hb5
      clear hb5
      go_wp2
      go_ret
      refine ⟨v5, rfl, ?_⟩
      have h1 := (Hb5.out.under Hm04.out).under Hmc.out
      have h2 : fltT b = efgT neg (digT d) (nd + p) := by
        have hz := Hr.out
        have hp1 := Hpos.out
        unfold fltT
        rw [neg_dec hng, if_neg (by have := Hr1.out; omega), if_neg (by omega), hz, Hs.out.is]
        simp only
        rw [Lib.decDigits_length, Hndd.out]
      rw [← Htt.out, h2]
      exact h1
end Go.Proofs.YtaenebdppkjhoaaGreatDoor
