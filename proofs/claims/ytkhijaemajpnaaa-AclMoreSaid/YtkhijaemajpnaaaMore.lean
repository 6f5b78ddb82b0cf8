/-
  AclMore: more rules let a principal do no less.
-/
import Derived.Test.YtkhijaemajpnaaaMask
import Derived.Test.YtkhijaemajpnaaaGet
namespace Go.Proofs.Ytkhijaemajpnaaa
open Go.RowKit

theorem homeOf_some_any (l : List Ru) (t : Int) (who : ByteArray) : (homeOf l t who).isSome = l.any fun r => r.of 0 t who := by
  unfold homeOf
  rw [Option.isSome_map, List.isSome_find?, List.any_reverse]
theorem may_mono (L M : List Ru) (t : Int) (who : ByteArray) (p : Ru → Bool) (h : ((homeOf L t who).isSome && L.any p) = true) : ((homeOf (L ++ M) t who).isSome && (L ++ M).any p) = true := by
  rw [homeOf_some_any, Bool.and_eq_true] at h
  rw [homeOf_some_any, List.any_append, List.any_append, h.1, h.2]
  rfl

/-- filter.Match of a rule's filter, of an event without attributes. -/
theorem match_none (w : World) (r : Ru) (hr : r.ok w) (es : ByteArray) (hes : es.size ≤ 9223372036854775807) :
    Calls Try.prog 32 #[.agg #[.string r.sc, r.cv], .agg #[.string es, .slice none 0 0]] w fun e w' => e = .returned (.bool (filMatch r.sc r.cs es [])) ∧ Mod (fun _ => False) w w' :=
  filter_match w r.sc r.cv r.cs hr.rd hr.len hr.sc (fun c hc => (hr.cname c hc).2) es (.slice none 0 0) [] ⟨rfl, none, 0, rfl, Nat.le_refl _, fun _ => rfl, fun b hb _ => (by cases hb)⟩ (by simp) (fun i j x y _ hx => (by simp at hx)) hes (fun a ha => (by simp at ha))

theorem two_at {i : Nat} (h : i < 2) : ∃ W : ByteArray, (#[.string ⟨#[97]⟩, .string ⟨#[98]⟩] : Array Value)[i]? = some (.string W) := by
  rcases (by omega : i = 0 ∨ i = 1) with rfl | rfl
  · exact ⟨_, rfl⟩
  · exact ⟨_, rfl⟩

set_option maxRecDepth 20000 in
set_option maxHeartbeats 8000000 in
theorem more_walk (w : World) (v v' : Value) (l l' : List Ru) (hv : RuSl w v l) (hll : l.length ≤ 9223372036854775807) (hn : RuNum l) (hv' : RuSl w v' l') (hll' : l'.length ≤ 9223372036854775807) (hn' : RuNum l') (gs : ByteArray) (gv : Value) (m : List Cnd) (hg : RdSl w 7 gv m.length (cnds m)) (hml : m.length ≤ 9223372036854775807) (hgs : gs.size ≤ 9223372036854775807)
    (hm : ∀ d ∈ m, d.name.size ≤ 9223372036854775807 ∧ d.v.text.size ≤ 9223372036854775807 ∧ d.v.num < 2 ^ 64) :
    Calls Try.prog 5 #[v, v', .agg #[.string gs, gv]] w fun e w' => e = .returned (.bool true) ∧ Mod (fun _ => False) w w' := by
  obtain ⟨ga, gc, rfl, hgc⟩ : ∃ a c, gv = .slice a m.length c ∧ m.length ≤ c := by obtain ⟨-, a, c, h, h2, -⟩ := hg; exact ⟨a, c, h, h2⟩
  obtain ⟨wb, hwb⟩ : ∃ wb : World, w.alloc (.cells #[.string gs, .slice ga m.length gc] 24) = wb := ⟨_, rfl⟩
  have hmwb : Mod (fun _ => False) w wb := hwb ▸ (Mod.refl (fun _ => False) w).alloc _
  have hgwb := heap_alloc_new w (.cells #[.string gs, .slice ga m.length gc] 24)
  rw [hwb] at hgwb
  have hzwb : wb.heap.size = w.heap.size + 1 := by rw [← hwb]; simp
  have hft := fit10_at wb
  have hlz : w.heap.size < wb.heap.size := by omega
  have Hwb := Lib.hid hwb
  have Hmwb := Lib.hid hmwb
  have Hgwb := Lib.hid hgwb
  have Hft := Lib.hid hft
  have Hv := Lib.hid hv
  have Hv' := Lib.hid hv'
  have Hn := Lib.hid hn
  have Hn' := Lib.hid hn'
  have Hg := Lib.hid hg
  have Hm := Lib.hid hm
  have Hll := Lib.hid hll
  have Hll' := Lib.hid hll'
  have Hml := Lib.hid hml
  have Hgs := Lib.hid hgs
  clear hwb hmwb hgwb hft hv hv' hn hn' hg hm hll hll' hml hgs hzwb
  go_enter Try.func5, Try.ntmps5
  go_wp2_with (first | (rw [show w.alloc _ = wb from Hwb.out]) | fail)
  refine Hft.out.mono ?_
  rintro e w1 ⟨rfl, hm1⟩
  have hm01 := Hmwb.out.trans hm1 (fun _ _ h => h)
  have hG1 := hm1.heap Hgwb.out (fun h => h)
  have hli := light10_at w1 v l (Hv.out.mod hm01) Hll.out
  have Hm01 := Lib.hid hm01
  have HG1 := Lib.hid hG1
  have Hli := Lib.hid hli
  clear hm01 hG1 hli hm1 Hft Hgwb Hmwb
  go_wp2_with fail
  refine Hli.out.mono ?_
  rintro e w2 ⟨b, rfl, hb, hm2⟩
  have hm02 := Hm01.out.trans hm2 (fun _ _ h => h)
  have hG2 := hm2.heap HG1.out (fun h => h)
  cases b with
  | false =>
    have Hm02 := Lib.hid hm02
    clear hm02 hm2 hG2 hb
    go_wp2
    go_ret
    exact ⟨rfl, Hm02.out⟩
  | true =>
  have hl80 := hb rfl
  have hli2 := light10_at w2 v' l' (Hv'.out.mod hm02) Hll'.out
  have Hm02 := Lib.hid hm02
  have HG2 := Lib.hid hG2
  have Hli2 := Lib.hid hli2
  clear hm02 hG2 hli2 hm2 hb HG1 Hli Hm01
  go_wp2_with fail
  refine Hli2.out.mono ?_
  rintro e w2b ⟨b, rfl, hb, hm2b⟩
  have hm02b := Hm02.out.trans hm2b (fun _ _ h => h)
  have hG2b := hm2b.heap HG2.out (fun h => h)
  cases b with
  | false =>
    have Hm02b := Lib.hid hm02b
    clear hm02b hm2b hG2b hb
    go_wp2
    go_ret
    exact ⟨rfl, Hm02b.out⟩
  | true =>
  have hl80' := hb rfl
  have hlf := light07_at w2b gs (.slice ga m.length gc) m (Hg.out.mod hm02b (fun _ _ h => h)) Hml.out
  have Hm02b := Lib.hid hm02b
  have HG2b := Lib.hid hG2b
  have Hlf := Lib.hid hlf
  clear hm02b hG2b hlf hm2b hb HG2 Hli2 Hm02
  have g0 : w2b.cell? ⟨w.heap.size, 0, none⟩ = some (.string gs) := cell_of HG2b.out rfl
  have g1 : w2b.cell? ⟨w.heap.size, 1, none⟩ = some (.slice ga m.length gc) := cell_of HG2b.out rfl
  go_wp2_with fail
  refine Hlf.out.mono ?_
  rintro e w3 ⟨b, rfl, hm3⟩
  have hm03 := Hm02b.out.trans hm3 (fun _ _ h => h)
  have hG3 := hm3.heap HG2b.out (fun h => h)
  have hfr := filter_right w3 gs (.slice ga m.length gc) m (Hg.out.mod hm03 (fun _ _ h => h)) Hml.out Hgs.out (fun c hc => (Hm.out c hc).1)
  have Hm03 := Lib.hid hm03
  have HG3 := Lib.hid hG3
  have Hfr := Lib.hid hfr
  clear hm03 hG3 hfr hm3 HG2b Hlf Hm02b g0 g1
  have g0 : w3.cell? ⟨w.heap.size, 0, none⟩ = some (.string gs) := cell_of HG3.out rfl
  have g1 : w3.cell? ⟨w.heap.size, 1, none⟩ = some (.slice ga m.length gc) := cell_of HG3.out rfl
  cases b with
  | false =>
    go_wp2
    go_ret
    exact ⟨rfl, Hm03.out⟩
  | true =>
  go_wp2_with fail
  refine Hfr.out.mono ?_
  rintro e w4 ⟨rfl, hm4⟩
  have hm04 := Hm03.out.trans hm4 (fun _ _ h => h)
  have hG4 := hm4.heap HG3.out (fun h => h)
  have hri := rights_at w4 v l (Hv.out.mod hm04) (by omega)
  have Hm04 := Lib.hid hm04
  have HG4 := Lib.hid hG4
  have Hri := Lib.hid hri
  clear hm04 hG4 hri hm4 HG3 Hfr Hm03 g0 g1
  cases hfr : filRight gs m with
  | false =>
    clear hfr
    go_wp2
    go_ret
    exact ⟨rfl, Hm04.out⟩
  | true =>
  have Hfr := Lib.hid hfr
  clear hfr
  go_wp2_with fail
  refine Hri.out.mono ?_
  rintro e w5 ⟨ov, rfl, hown, -, hm5⟩
  have hm05 := Hm04.out.trans hm5 (fun _ _ h => h)
  have hG5 := hm5.heap HG4.out (fun h => h)
  have hL := rights_sl Hv.out hown hm05
  have hLn : RuNum (l.filter Ru.rightB) := Hn.out.filter
  have hLl : (l.filter Ru.rightB).length ≤ 80 := Nat.le_trans (List.length_filter_le _ _) hl80
  obtain ⟨L, hLL⟩ : ∃ L, l.filter Ru.rightB = L := ⟨_, rfl⟩
  rw [hLL] at hown hL hLn hLl
  obtain ⟨oa, oc, rfl, -⟩ := hown.shape
  have hri2 := rights_at w5 v' l' (Hv'.out.mod hm05) (by omega)
  have Hm05 := Lib.hid hm05
  have HG5 := Lib.hid hG5
  have HL := Lib.hid hL
  have HLn := Lib.hid hLn
  have Hri2 := Lib.hid hri2
  have Hown := Lib.hid hown
  clear hm05 hG5 hL hLn hri2 hown hm5 hLL HG4 Hri Hm04 hl80
  go_wp2_with fail
  refine Hri2.out.mono ?_
  rintro e w6 ⟨ov, rfl, hown', -, hm6⟩
  have hm06 := Hm05.out.trans hm6 (fun _ _ h => h)
  have hG6 := hm6.heap HG5.out (fun h => h)
  have hM := rights_sl Hv'.out hown' hm06
  have hMn : RuNum (l'.filter Ru.rightB) := Hn'.out.filter
  have hMl : (l'.filter Ru.rightB).length ≤ 80 := Nat.le_trans (List.length_filter_le _ _) hl80'
  obtain ⟨M, hMM⟩ : ∃ M, l'.filter Ru.rightB = M := ⟨_, rfl⟩
  rw [hMM] at hown' hM hMn hMl
  obtain ⟨pa, pc, rfl, -⟩ := hown'.shape
  have hL6 := HL.out.mod hm6
  have Hm06 := Lib.hid hm06
  have HG6 := Lib.hid hG6
  have HL6 := Lib.hid hL6
  have HM := Lib.hid hM
  have HMn := Lib.hid hMn
  clear hm06 hG6 hL6 hM hMn hm6 hMM HG5 Hri2 Hm05 hl80' HL Hown hown'
  go_wp2_with (first | ((with_reducible refine wpList_append_lit (.const (.slice none 0 0)) (.tmp 34) 29 ?_); refine ⟨rfl, 26, 8, 104, rules_T, .slice none 0 0, 0, [], rfl, OwnSl.nil _ _ _, _, L.length, rus L, rfl, HL6.out.rd, rus_one L, by omega, by unfold maxLen; omega, ?_⟩; intro ad cap2 w7 hA; rw [Nat.zero_add] at *; rw [List.nil_append] at hA; have hm67 : Mod (fun _ => False) w6 w7 := hA.2.1.mono (fun _ _ h => by cases h); have hM7 := HM.out.mod hm67; have HA := Lib.hid hA; have Hm67 := Lib.hid hm67; have HM7 := Lib.hid hM7; clear hA hm67 hM7) | ((with_reducible refine wpList_append_lit (.tmp 35) (.tmp 36) 29 ?_); refine ⟨rfl, 26, 8, 104, rules_T, .slice ad L.length cap2, L.length, rus L, rfl, HA.out.1, _, M.length, rus M, rfl, HM7.out.rd, rus_one M, by omega, by unfold maxLen; omega, ?_⟩; intro ad2 cap3 w8 hA2; have HA2 := Lib.hid hA2; clear hA2) | fail)
  have hown2 := HA2.out.1
  rw [← rus_append] at hown2
  have hm68 : Mod (fun _ => False) w6 w8 := Hm67.out.upon HA2.out.2.1 (fun b hb => .inr (by
    rcases HA.out.2.2 with h | ⟨k, h, hk⟩
    · have hb : (Value.slice ad L.length cap2).ownBlock = some b := hb
      rw [h] at hb; cases hb
    · have hb : (Value.slice ad L.length cap2).ownBlock = some b := hb
      rw [h] at hb; cases hb; exact hk))
  have hm08 := Hm06.out.trans hm68 (fun _ _ h => h)
  have hL8 := HL6.out.mod hm68
  have hall : RuSl w8 (.slice ad2 (L.length + M.length) cap3) (L ++ M) := ⟨by rw [List.length_append]; exact hown2.rd, fun r hr => by
    rcases List.mem_append.1 hr with h | h
    · exact hL8.ok r h
    · exact (HM.out.ok r h).mod hm68⟩
  obtain ⟨wk, hwk⟩ : ∃ wk : World, w8.alloc (.cells #[.string ⟨#[97]⟩, .string ⟨#[98]⟩] 9) = wk := ⟨_, rfl⟩
  have hmwk : Mod (fun _ => False) w8 wk := hwk ▸ (Mod.refl (fun _ => False) w8).alloc _
  have hgwk := heap_alloc_new w8 (.cells #[.string ⟨#[97]⟩, .string ⟨#[98]⟩] 9)
  rw [hwk] at hgwk
  have hzwk : wk.heap.size = w8.heap.size + 1 := by rw [← hwk]; simp
  have hG8 := hm68.heap HG6.out (fun h => h)
  have hGk := hmwk.heap hG8 (fun h => h)
  have hLk := hL8.mod hmwk
  have hAk := hall.mod hmwk
  have hm0k := hm08.trans hmwk (fun _ _ h => h)
  have hlen : (L ++ M).length ≤ 200 := by rw [List.length_append]; omega
  have hAn : RuNum (L ++ M) := fun r hr => by
    rcases List.mem_append.1 hr with h | h
    · exact HLn.out r h
    · exact HMn.out r h
  have Hwk := Lib.hid hwk
  have Hgwk := Lib.hid hgwk
  have HGk := Lib.hid hGk
  have HLk := Lib.hid hLk
  have HAk := Lib.hid hAk
  have Hm0k := Lib.hid hm0k
  have HAn := Lib.hid hAn
  clear hwk hgwk hGk hLk hAk hm0k hAn hmwk hzwk hG8 hL8 hall hm08 hm68 hown2 HA HA2 Hm67 HM7 HM HL6 HG6 Hm06 HMn
  go_wp2_with (first | (rw [show w8.alloc _ = wk from Hwk.out]) | fail)
  go_loopw [40] (fun i wr => ∃ j : Nat, i = .int .i64 j ∧ j ≤ 2 ∧ Mod (fun _ => False) wk wr) (fun i _ => 2 - (intOf i).toNat)
  case atStart => exact ⟨0, rfl, Nat.zero_le _, Mod.refl _ _⟩
  case round =>
    obtain ⟨j, rfl, hj, hmr⟩ := hrel
    by_cases hlt : j < 2
    · have hlt' : (j : Int) < 2 := by omega
      obtain ⟨W, hW⟩ := two_at hlt
      have hs : wr.cell? ⟨w8.heap.size, j, none⟩ = some (.string W) := hmr.cell ((cell_of_row wk w8.heap.size j _ _ _ Hgwk.out).trans hW) (fun h => h)
      have hm0r := Hm0k.out.trans hmr (fun _ _ h => h)
      have hGr := hmr.heap HGk.out (fun h => h)
      have hLr := HLk.out.mod hmr
      have hAr := HAk.out.mod hmr
      have hob : ∀ (wx : World) (K : List Ru) (kv : Value), RuSl wx kv K → K.length ≤ 200 → RuNum K → Mod (fun _ => False) w wx → Calls Try.prog 16 #[kv, .int .i64 0, .string W, .agg #[.string gs, .slice ga m.length gc]] wx fun e w' =>
          e = .returned (.bool ((homeOf K 0 W).isSome && K.any fun r => r.of 2 0 W && covB gs m r)) ∧ Mod (fun _ => False) wx w' := fun wx K kv hK hKl hKn hmx =>
        may_observe (covB gs m) wx kv K hK (by omega) 0 W gs ga m.length gc (fun r hr wy hwy ho => covers_at wy r ((hK.ok r hr).mod hwy) (hKn r hr) gs (.slice ga m.length gc) m (Hg.out.mod (hmx.trans hwy (fun _ _ h => h)) (fun _ _ h => h)) Hml.out Hgs.out (fun d hd => (Hm.out d hd).2))
      have hpb : ∀ (wx : World) (K : List Ru) (kv : Value), RuSl wx kv K → K.length ≤ 200 → Calls Try.prog 19 #[kv, .int .i64 0, .string W, .agg #[.string gs, .slice none 0 0]] wx fun e w' =>
          e = .returned (.bool ((homeOf K 0 W).isSome && K.any fun r => r.of 1 0 W && filMatch r.sc r.cs gs [])) ∧ Mod (fun _ => False) wx w' := fun wx K kv hK hKl =>
        may_publish (fun r => filMatch r.sc r.cs gs []) wx kv K hK (by omega) 0 W gs none 0 0 (fun r hr wy hwy => match_none wy r ((hK.ok r hr).mod hwy) gs Hgs.out)
      have ho1 := hob wr L _ hLr (by omega) HLn.out hm0r
      have ho2 := fun wx hwx => hob wx (L ++ M) _ (hAr.mod hwx) hlen HAn.out (hm0r.trans hwx (fun _ _ h => h))
      have hp1 := fun wx hwx => hpb wx L _ (hLr.mod hwx) (by omega)
      have hp2 := fun wx hwx => hpb wx (L ++ M) _ (hAr.mod hwx) hlen
      have hmo := may_mono L M 0 W (fun r => r.of 2 0 W && covB gs m r)
      have hmp := may_mono L M 0 W (fun r => r.of 1 0 W && filMatch r.sc r.cs gs [])
      obtain ⟨A, hA⟩ : ∃ A, ((homeOf L 0 W).isSome && L.any fun r => r.of 2 0 W && covB gs m r) = A := ⟨_, rfl⟩
      obtain ⟨A2, hA2⟩ : ∃ A, ((homeOf (L ++ M) 0 W).isSome && (L ++ M).any fun r => r.of 2 0 W && covB gs m r) = A := ⟨_, rfl⟩
      obtain ⟨B, hB⟩ : ∃ A, ((homeOf L 0 W).isSome && L.any fun r => r.of 1 0 W && filMatch r.sc r.cs gs []) = A := ⟨_, rfl⟩
      obtain ⟨B2, hB2⟩ : ∃ A, ((homeOf (L ++ M) 0 W).isSome && (L ++ M).any fun r => r.of 1 0 W && filMatch r.sc r.cs gs []) = A := ⟨_, rfl⟩
      rw [hA] at ho1 hmo
      rw [hA2] at ho2 hmo
      rw [hB] at hp1 hmp
      rw [hB2] at hp2 hmp
      have g0 : wr.cell? ⟨w.heap.size, 0, none⟩ = some (.string gs) := cell_of hGr rfl
      have g1 : wr.cell? ⟨w.heap.size, 1, none⟩ = some (.slice ga m.length gc) := cell_of hGr rfl
      have Hmr := Lib.hid hmr
      have HGr := Lib.hid hGr
      have Ho1 := Lib.hid ho1
      have Ho2 := Lib.hid ho2
      have Hp1 := Lib.hid hp1
      have Hp2 := Lib.hid hp2
      have Hmo := Lib.hid hmo
      have Hmp := Lib.hid hmp
      clear hmr hGr ho1 ho2 hp1 hp2 hmo hmp hA hA2 hB hB2 hob hpb hLr hAr hm0r hW
      go_wp2_with fail
      refine Ho1.out.mono ?_
      rintro e x1 ⟨rfl, hx1⟩
      have hGx := hx1.heap HGr.out (fun h => h)
      have h2x := Ho2.out x1 hx1
      have hp1x := Hp1.out x1 hx1
      have hmx := Hmr.out.trans hx1 (fun _ _ h => h)
      have k0 : x1.cell? ⟨w.heap.size, 0, none⟩ = some (.string gs) := cell_of hGx rfl
      have k1 : x1.cell? ⟨w.heap.size, 1, none⟩ = some (.slice ga m.length gc) := cell_of hGx rfl
      have HGx := Lib.hid hGx
      have H2x := Lib.hid h2x
      have Hp1x := Lib.hid hp1x
      have Hmx := Lib.hid hmx
      have Hx1 := Lib.hid hx1
      clear hGx h2x hp1x hmx hx1 g0 g1 Ho1 Ho2 hs
      cases A with
      | true =>
        have hA2t : A2 = true := Hmo.out rfl
        rw [hA2t] at H2x
        clear hA2t
        go_wp2_with fail
        refine H2x.out.mono ?_
        rintro e x2 ⟨rfl, hx2⟩
        have hwx2 := Hx1.out.trans hx2 (fun _ _ h => h)
        have hGx2 := hx2.heap HGx.out (fun h => h)
        have Hwx2 := Lib.hid hwx2
        have HGx2 := Lib.hid hGx2
        clear hwx2 hGx2 hx2 k0 k1
        have hp1y := Hp1.out x2 Hwx2.out
        have k0 : x2.cell? ⟨w.heap.size, 0, none⟩ = some (.string gs) := cell_of HGx2.out rfl
        have k1 : x2.cell? ⟨w.heap.size, 1, none⟩ = some (.slice ga m.length gc) := cell_of HGx2.out rfl
        have Hp1y := Lib.hid hp1y
        clear hp1y
        go_wp2_with fail
        refine Hp1y.out.mono ?_
        rintro e y1 ⟨rfl, hy1⟩
        have hwy := Hwx2.out.trans hy1 (fun _ _ h => h)
        have hGy := hy1.heap HGx2.out (fun h => h)
        have hp2y := Hp2.out y1 hwy
        have Hwy := Lib.hid hwy
        have HGy := Lib.hid hGy
        have Hp2y := Lib.hid hp2y
        clear hwy hGy hp2y hy1 k0 k1
        have k0 : y1.cell? ⟨w.heap.size, 0, none⟩ = some (.string gs) := cell_of HGy.out rfl
        have k1 : y1.cell? ⟨w.heap.size, 1, none⟩ = some (.slice ga m.length gc) := cell_of HGy.out rfl
        cases B with
        | true =>
          have hB2t : B2 = true := Hmp.out rfl
          rw [hB2t] at Hp2y
          clear hB2t
          go_wp2_with fail
          refine Hp2y.out.mono ?_
          rintro e y2 ⟨rfl, hy2⟩
          have Hz := Lib.hid (Hmr.out.trans (Hwy.out.trans hy2 (fun _ _ h => h)) (fun _ _ h => h))
          clear hy2 k0 k1
          go_wp2_with fail
          go_roundw
          case rel => exact ⟨j + 1, by go_num, by omega, Hz.out⟩
          case measure => simp [intOf]; omega
        | false =>
          have Hz := Lib.hid (Hmr.out.trans Hwy.out (fun _ _ h => h))
          go_wp2_with fail
          go_roundw
          case rel => exact ⟨j + 1, by go_num, by omega, Hz.out⟩
          case measure => simp [intOf]; omega
      | false =>
        clear k0 k1
        have hp1y := Hp1.out x1 Hx1.out
        have k0 : x1.cell? ⟨w.heap.size, 0, none⟩ = some (.string gs) := cell_of HGx.out rfl
        have k1 : x1.cell? ⟨w.heap.size, 1, none⟩ = some (.slice ga m.length gc) := cell_of HGx.out rfl
        have Hp1y := Lib.hid hp1y
        clear hp1y
        go_wp2_with fail
        refine Hp1y.out.mono ?_
        rintro e y1 ⟨rfl, hy1⟩
        have hwy := Hx1.out.trans hy1 (fun _ _ h => h)
        have hGy := hy1.heap HGx.out (fun h => h)
        have hp2y := Hp2.out y1 hwy
        have Hwy := Lib.hid hwy
        have HGy := Lib.hid hGy
        have Hp2y := Lib.hid hp2y
        clear hwy hGy hp2y hy1 k0 k1
        have k0 : y1.cell? ⟨w.heap.size, 0, none⟩ = some (.string gs) := cell_of HGy.out rfl
        have k1 : y1.cell? ⟨w.heap.size, 1, none⟩ = some (.slice ga m.length gc) := cell_of HGy.out rfl
        cases B with
        | true =>
          have hB2t : B2 = true := Hmp.out rfl
          rw [hB2t] at Hp2y
          clear hB2t
          go_wp2_with fail
          refine Hp2y.out.mono ?_
          rintro e y2 ⟨rfl, hy2⟩
          have Hz := Lib.hid (Hmr.out.trans (Hwy.out.trans hy2 (fun _ _ h => h)) (fun _ _ h => h))
          clear hy2 k0 k1
          go_wp2_with fail
          go_roundw
          case rel => exact ⟨j + 1, by go_num, by omega, Hz.out⟩
          case measure => simp [intOf]; omega
        | false =>
          have Hz := Lib.hid (Hmr.out.trans Hwy.out (fun _ _ h => h))
          go_wp2_with fail
          go_roundw
          case rel => exact ⟨j + 1, by go_num, by omega, Hz.out⟩
          case measure => simp [intOf]; omega
    · obtain rfl : j = 2 := by omega
      have hm0r := Hm0k.out.trans hmr (fun _ _ h => h)
      have Hm0r := Lib.hid hm0r
      clear hm0r hmr
      go_wp2
      go_ret
      exact ⟨rfl, Hm0r.out⟩
end Go.Proofs.Ytkhijaemajpnaaa
