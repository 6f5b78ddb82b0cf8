/-
  CodecEvents: events come back from their bytes; what is cut off, or stands behind, makes them none.
-/
import Derived.Test.YtfpghpicknnfgaaEvlaw
import Derived.Test.YtfpghpicknnfgaaLight
import Derived.Test.YtfpghpicknnfgaaRdall
import Derived.Test.YtfpghpicknnfgaaFitc
import Derived.Test.YtfpghpicknnfgaaEvb
import Derived.Test.YtfpghpicknnfgaaWrite
namespace Go.Proofs.Ytfpghpicknnfgaa
open Go.RowKit

theorem and65535 (n : Int) : ∃ N : Nat, bits .and .i64 n 65535 = (N : Int) ∧ N ≤ 65535 := by
  refine ⟨(BitVec.ofInt 64 n &&& BitVec.ofInt 64 65535).toNat, ?_, ?_⟩
  · show IntKind.i64.wrap ((BitVec.ofInt 64 n &&& BitVec.ofInt 64 65535).toNat : Nat) = _
    have h : (BitVec.ofInt 64 n &&& BitVec.ofInt 64 65535).toNat ≤ 65535 := by
      rw [BitVec.toNat_and]
      exact Nat.and_le_right
    rw [IntKind.wrap_i64]
    omega
  · rw [BitVec.toNat_and]
    exact Nat.and_le_right

/-- What is owned reads as bytes. -/
theorem own_bytes2 {w : World} {v : Value} {bs : List UInt8} (h : OwnSl w 5 1 v bs.length (u8s bs)) : ∃ G, BytesAt w G v bs ∧ G ≤ w.heap.size := by
  rcases h.2 with ⟨rfl, h0⟩ | ⟨g, off, cap, cur, hv, hg, hn, -⟩
  · obtain rfl := List.eq_nil_of_length_eq_zero h0
    exact ⟨0, ⟨none, 0, rfl, Nat.le_refl _, fun _ => rfl, fun b hb => (by cases hb)⟩, Nat.zero_le _⟩
  · obtain ⟨-, a, c, h1, h2, h3, h4⟩ := h.rd
    rw [hv] at h1
    cases h1
    obtain ⟨g', off', h5, h6⟩ := h4 _ rfl
    cases h5
    have hlt := (Array.getElem?_eq_some_iff.1 hg).1
    exact ⟨g, ⟨_, cap, hv, hn, (fun h => by cases h), fun b hb => ⟨off, (by cases hb; rfl), hlt, fun j u hu => h6 j _ (by simp [u8s, hu])⟩⟩, Nat.le_of_lt hlt⟩

/-- The first n bytes. -/
theorem BytesAt.take {w : World} {G : Nat} {a : Option Addr} {cap : Nat} {bs : List UInt8} (h : BytesAt w G (.slice a bs.length cap) bs) {n : Nat} (hn : n ≤ bs.length) : BytesAt w G (.slice a n cap) (bs.take n) := by
  obtain ⟨a', c', h1, h2, h3, h4⟩ := h.ex
  cases h1
  have hl : (bs.take n).length = n := by rw [List.length_take]; omega
  refine ⟨a, cap, by rw [hl], by rw [hl]; omega, h3, fun b hb => ?_⟩
  obtain ⟨off, h5, h6, h7⟩ := h4 b hb
  refine ⟨off, h5, h6, fun j u hu => h7 j u ?_⟩
  rw [List.getElem?_take] at hu
  split at hu
  · exact hu
  · cases hu

set_option maxRecDepth 20000 in
set_option maxHeartbeats 8000000 in
theorem events_walk (w : World) (lv : Value) (l : List Att) (s : ByteArray) (n : Int) (hv : RdSl w 6 lv l.length (atts l)) (hll : l.length ≤ maxLen) (hs : s.size ≤ maxLen) (hf : ∀ a ∈ l, a.name.size ≤ maxLen ∧ (-9223372036854775808 ≤ a.v.int ∧ a.v.int ≤ 9223372036854775807) ∧ a.v.num < 2 ^ 64) :
    Calls Try.prog 9 #[lv, .string s, .int .i64 n] w fun e w' => e = .returned (.bool true) ∧ Mod (fun _ => False) w w' := by
  have hs' : (s.size : Int) ≤ 9223372036854775807 := by simp only [maxLen] at hs; omega
  have hft := fit_at w
  have Hft := Lib.hid hft
  have Hv := Lib.hid hv
  have Hf := Lib.hid hf
  clear hft hv hf hs
  go_enter Try.func9, Try.ntmps9
  go_wp2_with fail
  refine Hft.out.mono ?_
  rintro e w1 ⟨rfl, hm1⟩
  have hlg := light_at w1 lv l (Hv.out.mod hm1 (fun _ _ h => h)) hll
  have Hll := Lib.hid hll
  have Hm1 := Lib.hid hm1
  have Hlg := Lib.hid hlg
  clear hm1 hlg Hft hll
  go_wp2_with fail
  refine Hlg.out.mono ?_
  rintro e w2 ⟨b, rfl, hb, hm2⟩
  have hm02 := Hm1.out.trans hm2 (fun _ _ h => h)
  have Hm02 := Lib.hid hm02
  clear hm02 hm2 Hlg Hm1
  cases b with
  | false =>
    clear hb
    go_wp2
    go_ret
    exact ⟨rfl, Hm02.out⟩
  | true =>
  have hl30 := hb rfl
  clear hb
  by_cases hsz : s.size ≤ 255
  rotate_left
  · have hsz' : (255 : Int) < s.size := by omega
    go_wp2
    go_ret
    exact ⟨rfl, Hm02.out⟩
  have hsz' : (s.size : Int) ≤ 255 := by omega
  have hnew := new_at w2 s lv l (Hv.out.mod Hm02.out (fun _ _ h => h)) (by omega)
  have Hnew := Lib.hid hnew
  clear hnew
  go_wp2_with fail
  refine Hnew.out.mono ?_
  rintro e w3 ⟨av, rfl, hown, hfr, hm3⟩
  have hlen := newL_length l
  have hnm := newL_mem (p := fun a => a.name.size ≤ maxLen) l (fun a ha => (Hf.out a ha).1)
  have htells := new_tells l (fun a ha => (Hf.out a ha).2)
  obtain ⟨L, hL⟩ : ∃ L, newL l = L := ⟨_, rfl⟩
  rw [hL] at hown hlen hnm htells
  obtain ⟨aa, ac, rfl, -⟩ := hown.shape
  have hm03 := Hm02.out.trans hm3 (fun _ _ h => h)
  obtain ⟨wA, hwA⟩ : ∃ wA : World, w3.alloc (.cells #[.string s, .slice aa L.length ac] 26) = wA := ⟨_, rfl⟩
  have hmwA : Mod (fun _ => False) w3 wA := hwA ▸ (Mod.refl (fun _ => False) w3).alloc _
  have hgwA := heap_alloc_new w3 (.cells #[.string s, .slice aa L.length ac] 26)
  rw [hwA] at hgwA
  have hzwA : wA.heap.size = w3.heap.size + 1 := by rw [← hwA]; simp
  have hownA := hown.mod hmwA (fun _ _ h => h)
  have hm0A := hm03.trans hmwA (fun _ _ h => h)
  have hrt := right_at s (.slice aa L.length ac) L wA hownA.rd (by omega) (fun x hx => by have := hnm x hx; simp only [maxLen] at this; omega)
  have hqA : w3.heap.size < wA.heap.size := by omega
  have c0 : wA.cell? ⟨w3.heap.size, 0, none⟩ = some (.string s) := cell_of hgwA rfl
  have c1 : wA.cell? ⟨w3.heap.size, 1, none⟩ = some (.slice aa L.length ac) := cell_of hgwA rfl
  have HL := Lib.hid hL
  have Htells := Lib.hid htells
  have Hrt := Lib.hid hrt
  have HownA := Lib.hid hownA
  have Hm0A := Lib.hid hm0A
  have HgwA := Lib.hid hgwA
  have Hlen := Lib.hid hlen
  have HwA := Lib.hid hwA
  clear hL htells hrt hownA hm0A hgwA hlen hwA hown hm3 hm03 hmwA hnm hzwA Hnew hfr
  go_wp2_with (first | (rw [show w3.alloc _ = wA from HwA.out]) | fail)
  refine Hrt.out.mono ?_
  rintro e w4 ⟨rfl, hm4⟩
  have hg4 := hm4.heap HgwA.out (fun h => h)
  have hown4 := HownA.out.mod hm4 (fun _ _ h => h)
  have hm04 := Hm0A.out.trans hm4 (fun _ _ h => h)
  have c0 : w4.cell? ⟨w3.heap.size, 0, none⟩ = some (.string s) := cell_of hg4 rfl
  have c1 : w4.cell? ⟨w3.heap.size, 1, none⟩ = some (.slice aa L.length ac) := cell_of hg4 rfl
  have Hg4 := Lib.hid hg4
  have Hown4 := Lib.hid hown4
  have Hm04 := Lib.hid hm04
  clear hg4 hown4 hm04 hm4 Hrt
  cases hr : evRight L with
  | false =>
    clear hr
    go_wp2
    go_ret
    exact ⟨rfl, Hm04.out⟩
  | true =>
  have htell := Htells.out hr
  have hfit : ∀ a ∈ L, a.fit := fun a ha => Att.tells_fit (htell a ha)
  have hlen30 : L.length ≤ 30 := by have := Hlen.out; omega
  have hTBl := evBytes_length s L hsz hlen30 hfit
  have hfwd := readE_fwd s L [] hsz hr htell
  have hcut := fun (n : Nat) (hn : n < (evBytes s L).length) => readE_cut s L hsz hr htell hn
  have hmore := readE_more s L hsz hr htell 0
  have hpos : 0 < (evBytes s L).length := by unfold evBytes; simp
  have hev := ev_bytes w4 s (by omega) (.slice aa L.length ac) L Hown4.out.rd Hown4.out.lt (by omega) hfit
  rw [List.append_nil] at hfwd
  obtain ⟨TB, hTB⟩ : ∃ TB, evBytes s L = TB := ⟨_, rfl⟩
  rw [hTB] at hTBl hfwd hcut hmore hpos hev
  have Htell := Lib.hid htell
  have HTBl := Lib.hid hTBl
  have Hfwd := Lib.hid hfwd
  have Hcut := Lib.hid hcut
  have Hmore := Lib.hid hmore
  have Hpos := Lib.hid hpos
  have Hev := Lib.hid hev
  have HTB := Lib.hid hTB
  have Hr := Lib.hid hr
  have Hfit := Lib.hid hfit
  have Hlen30 := Lib.hid hlen30
  clear htell hTBl hfwd hcut hmore hpos hev hTB hr hfit hlen30
  go_wp2_with fail
  refine Hev.out.mono ?_
  rintro e w5 ⟨v5, rfl, hown5, -, hm5⟩
  obtain ⟨ba, bc, rfl, hbc⟩ := hown5.shape
  obtain ⟨G, hbG, hGl⟩ : ∃ G, BytesAt w5 G (.slice ba TB.length bc) TB ∧ G < w5.heap.size := by
    obtain ⟨-, a', c', h1, h2, h3, h4⟩ := hown5.rd
    cases h1
    rcases hown5.2 with ⟨-, h0⟩ | ⟨g, off, c', cur, h5, h6, -⟩
    · have := Hpos.out; omega
    · cases h5
      have hlt := (Array.getElem?_eq_some_iff.1 h6).1
      obtain ⟨g', off', h7, h8⟩ := h4 _ rfl
      cases h7
      exact ⟨g, ⟨_, bc, rfl, hbc, (fun h => by cases h), fun b hb => ⟨off, (by cases hb; rfl), hlt, fun j u hu => h8 j _ (by simp [u8s, hu])⟩⟩, hlt⟩
  have hm05 := Hm04.out.trans hm5 (fun _ _ h => h)
  have hown45 := Hown4.out.mod hm5 (fun _ _ h => h)
  have hg5 := hm5.heap Hg4.out (fun h => h)
  have hre := read_event (.slice ba TB.length bc) G TB w5 hbG (Nat.le_of_lt hGl)
  have Hm05 := Lib.hid hm05
  have Hown45 := Lib.hid hown45
  have Hg5 := Lib.hid hg5
  have Hre := Lib.hid hre
  have Hown5 := Lib.hid hown5
  have HbG := Lib.hid hbG
  clear hm05 hown45 hg5 hre hown5 hbG hm5 Hev c0 c1
  go_wp2_with fail
  refine Hre.out.mono ?_
  rintro e w6 ⟨sc6, l6, av6, ok6, rfl, hown6, -, -, hm6, hok6⟩
  rcases hok6 with ⟨rfl, hok6⟩ | ⟨-, hok6, -⟩
  rotate_left
  · exact absurd Hfwd.out (hok6 _)
  rw [Hfwd.out] at hok6
  cases hok6
  obtain ⟨a6, c6, rfl, -⟩ := hown6.shape
  obtain ⟨wD, hwD⟩ : ∃ wD : World, w6.alloc (.cells #[.string s, .slice a6 L.length c6] 26) = wD := ⟨_, rfl⟩
  have hmwD : Mod (fun _ => False) w6 wD := hwD ▸ (Mod.refl (fun _ => False) w6).alloc _
  have hgwD := heap_alloc_new w6 (.cells #[.string s, .slice a6 L.length c6] 26)
  rw [hwD] at hgwD
  have hzwD : wD.heap.size = w6.heap.size + 1 := by rw [← hwD]; simp
  have hm0D := (Hm05.out.trans hm6 (fun _ _ h => h)).trans hmwD (fun _ _ h => h)
  have hm5D := hm6.trans hmwD (fun _ _ h => h)
  have hown4D := Hown45.out.mod hm5D (fun _ _ h => h)
  have hown6D := hown6.mod hmwD (fun _ _ h => h)
  have hg4D := hm5D.heap Hg5.out (fun h => h)
  have hbGD := HbG.out.mod hm5D (fun _ h => h)
  have hown5D := Hown5.out.mod hm5D (fun _ _ h => h)
  obtain ⟨N, hand, hN⟩ := and65535 n
  have hN0 : (0 : Int) ≤ N := by omega
  have hN1 : (N : Int) ≤ 65535 := by omega
  have hpos := Hpos.out
  have hTB20 : (TB.length : Int) ≤ 20000 := by have := HTBl.out; omega
  have hTBp : (0 : Int) < TB.length := by omega
  have hTBne : ¬ ((TB.length : Int) = 0) := by omega
  have hTBb : ((TB.length : Int) == 0) = false := beq_eq_false_iff_ne.2 hTBne
  obtain ⟨M, hM, hMl⟩ : ∃ M : Nat, (N : Int) % (TB.length : Int) = (M : Int) ∧ M < TB.length := ⟨N % TB.length, by simp, Nat.mod_lt _ hpos⟩
  have hMl' : (M : Int) < TB.length := by omega
  have hMc : (M : Int) ≤ bc := by omega
  have hcutM := Hcut.out M hMl
  have hre2 := read_event (.slice ba M bc) G (TB.take M) wD (hbGD.take (Nat.le_of_lt hMl)) (by have := hm5D.size; omega)
  have Hm0D := Lib.hid hm0D
  have Hm5D := Lib.hid hm5D
  have Hown4D := Lib.hid hown4D
  have Hown6D := Lib.hid hown6D
  have Hg4D := Lib.hid hg4D
  have HbGD := Lib.hid hbGD
  have Hown5D := Lib.hid hown5D
  have HcutM := Lib.hid hcutM
  have Hre2 := Lib.hid hre2
  have HgwD := Lib.hid hgwD
  have HwD := Lib.hid hwD
  clear hm0D hm5D hown4D hown6D hg4D hbGD hown5D hcutM hre2 hgwD hwD hm6 hmwD hown6 hpos hzwD Hre
  go_wp2_with (first | (rw [show w6.alloc _ = wD from HwD.out]) | fail)
  refine Hre2.out.mono ?_
  rintro e w7 ⟨sc7, l7, av7, ok7, rfl, hown7, -, -, hm7, hok7⟩
  rcases hok7 with ⟨-, hok7⟩ | ⟨rfl, -, rfl, rfl⟩
  · exact absurd hok7 (HcutM.out _)
  obtain ⟨a7, c7, rfl, -⟩ := hown7.shape
  obtain ⟨wE, hwE⟩ : ∃ wE : World, w7.alloc (.cells #[.string ⟨#[]⟩, .slice a7 0 c7] 26) = wE := ⟨_, rfl⟩
  have hmwE : Mod (fun _ => False) w7 wE := hwE ▸ (Mod.refl (fun _ => False) w7).alloc _
  have hgwE := heap_alloc_new w7 (.cells #[.string ⟨#[]⟩, .slice a7 0 c7] 26)
  rw [hwE] at hgwE
  have hzwE : wE.heap.size = w7.heap.size + 1 := by rw [← hwE]; simp
  have hmDE := hm7.trans hmwE (fun _ _ h => h)
  have hm0E := Hm0D.out.trans hmDE (fun _ _ h => h)
  have hown4E := Hown4D.out.mod hmDE (fun _ _ h => h)
  have hown6E := Hown6D.out.mod hmDE (fun _ _ h => h)
  have hg4E := hmDE.heap Hg4D.out (fun h => h)
  have hg6E := hmDE.heap HgwD.out (fun h => h)
  have hrdE := (Hown5D.out.mod hmDE (fun _ _ h => h)).rd
  have hone1 : ∀ u ∈ u8s [0], u.oneCell' = true := u8s_one [0]
  have HmDE := Lib.hid hmDE
  have Hm0E := Lib.hid hm0E
  have Hown4E := Lib.hid hown4E
  have Hown6E := Lib.hid hown6E
  have Hg4E := Lib.hid hg4E
  have Hg6E := Lib.hid hg6E
  have HrdE := Lib.hid hrdE
  have HwE := Lib.hid hwE
  have Hone1 := Lib.hid hone1
  clear hmDE hm0E hown4E hown6E hg4E hg6E hrdE hwE hone1 hm7 hmwE hown7 hgwE hzwE Hre2
  go_wp2_with (first | (rw [show w7.alloc _ = wE from HwE.out]) | ((with_reducible refine wpList_append_lit (.const (.slice none 0 0)) (.tmp 51) 22 ?_); refine ⟨rfl, 5, 1, 1, bytes_T, .slice none 0 0, 0, [], rfl, OwnSl.nil _ _ _, _, TB.length, u8s TB, rfl, HrdE.out, u8s_one TB, by omega, by unfold maxLen; omega, ?_⟩; intro ad1 cp1 wF hA; rw [Nat.zero_add] at *; rw [List.nil_append] at hA; have HA1 := Lib.hid hA; clear hA) | ((with_reducible refine wpList_append_lit (.tmp 52) (.tmp 53) 22 ?_); refine ⟨rfl, 5, 1, 1, bytes_T, .slice ad1 TB.length cp1, TB.length, u8s TB, rfl, HA1.out.1.alloc _, _, 1, u8s [0], rfl, RdSl.one _ _ _ rfl, Hone1.out, by omega, by unfold maxLen; omega, ?_⟩; intro ad2 cp2 wG hA; have HA2 := Lib.hid hA; clear hA) | fail)
  have hEF : Mod (fun _ => False) wE wF := HA1.out.2.1.mono (fun k _ hk => by cases hk)
  have hb1 : ∀ b, inBlock (.slice ad1 TB.length cp1) b → wE.heap.size ≤ b := fun b hb => by
    have hb : (Value.slice ad1 TB.length cp1).ownBlock = some b := hb
    rcases HA1.out.2.2 with h | ⟨q, h, hq⟩
    · rw [h] at hb; cases hb
    · rw [h] at hb; cases hb; exact hq
  have hEG : Mod (fun _ => False) wE wG := (hEF.alloc _).upon HA2.out.2.1 (fun b hb => .inr (hb1 b hb))
  have hownG : OwnSl wG 5 1 (.slice ad2 (TB.length + 1) cp2) (TB ++ [0]).length (u8s (TB ++ [0])) := by
    have := HA2.out.1
    rw [List.length_append, show u8s (TB ++ [0]) = u8s TB ++ u8s [0] by simp [u8s]]
    exact this
  obtain ⟨G2, hbG2, hGl2⟩ := own_bytes2 hownG
  have hre3 := read_event (.slice ad2 (TB.length + 1) cp2) G2 (TB ++ [0]) wG hbG2 hGl2
  refine hre3.mono ?_
  rintro e w8 ⟨sc8, l8, av8, ok8, rfl, hown8, -, -, hm8, hok8⟩
  rcases hok8 with ⟨-, hok8⟩ | ⟨rfl, -, rfl, rfl⟩
  · exact absurd hok8 (Hmore.out _)
  obtain ⟨a8, c8, rfl, -⟩ := hown8.shape
  obtain ⟨wH, hwH⟩ : ∃ wH : World, w8.alloc (.cells #[.string ⟨#[]⟩, .slice a8 0 c8] 26) = wH := ⟨_, rfl⟩
  have hmwH : Mod (fun _ => False) w8 wH := hwH ▸ (Mod.refl (fun _ => False) w8).alloc _
  have hgwH := heap_alloc_new w8 (.cells #[.string ⟨#[]⟩, .slice a8 0 c8] 26)
  rw [hwH] at hgwH
  have hzwH : wH.heap.size = w8.heap.size + 1 := by rw [← hwH]; simp
  have hmEH := (hEG.trans hm8 (fun _ _ h => h)).trans hmwH (fun _ _ h => h)
  have hm0H := Hm0E.out.trans hmEH (fun _ _ h => h)
  have hown4H := Hown4E.out.mod hmEH (fun _ _ h => h)
  have hown6H := Hown6E.out.mod hmEH (fun _ _ h => h)
  have hg4H := hmEH.heap Hg4E.out (fun h => h)
  have hg6H := hmEH.heap Hg6E.out (fun h => h)
  have d0 : wH.cell? ⟨w3.heap.size, 0, none⟩ = some (.string s) := cell_of hg4H rfl
  have d1 : wH.cell? ⟨w3.heap.size, 1, none⟩ = some (.slice aa L.length ac) := cell_of hg4H rfl
  have e0 : wH.cell? ⟨w6.heap.size, 0, none⟩ = some (.string s) := cell_of hg6H rfl
  have e1 : wH.cell? ⟨w6.heap.size, 1, none⟩ = some (.slice a6 L.length c6) := cell_of hg6H rfl
  have hln := Hlen30.out
  have hsame := evsame_at wH s s (.slice aa L.length ac) (.slice a6 L.length c6) L L hown4H.rd hown6H.rd (by omega) (by omega) (fun x hx => (Htell.out x hx).v.num) (fun x hx => (Htell.out x hx).v.num)
  rw [attsSame_self, Bool.and_true, beq_self_eq_true] at hsame
  have Hm0H := Lib.hid hm0H
  have Hsame := Lib.hid hsame
  have HwH := Lib.hid hwH
  clear hm0H hsame hwH hEF hEG hb1 hownG hbG2 hre3 hm8 hmEH hmwH hown4H hown6H hg4H hg6H hln hown8 hgwH hzwH hGl2
  go_wp2_with (first | (rw [show w8.alloc _ = wH from HwH.out]) | fail)
  refine Hsame.out.mono ?_
  rintro e w9 ⟨rfl, hm9⟩
  have Hm9 := Lib.hid (Hm0H.out.trans hm9 (fun _ _ h => h))
  clear hm9
  go_wp2
  go_ret
  exact ⟨rfl, Hm9.out⟩
end Go.Proofs.Ytfpghpicknnfgaa
