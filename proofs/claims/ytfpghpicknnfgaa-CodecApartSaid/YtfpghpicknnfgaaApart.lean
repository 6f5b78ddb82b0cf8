/-
  CodecApart: unlike events that may be have unlike bytes.
-/
import Derived.Test.YtfpghpicknnfgaaEvents
import Derived.Test.YtfpghpicknnfgaaAny
import Derived.Test.YtfpghpicknnfgaaPlan5
namespace Go.Proofs.Ytfpghpicknnfgaa
open Go.RowKit

set_option maxRecDepth 20000 in
set_option maxHeartbeats 8000000 in
theorem apart_walk (w : World) (lv mv : Value) (l m : List Att) (s : ByteArray) (hv : RdSl w 6 lv l.length (atts l)) (hu : RdSl w 6 mv m.length (atts m)) (hll : l.length ≤ maxLen) (hml : m.length ≤ maxLen) (hs : s.size ≤ maxLen)
    (hf : ∀ a ∈ l, a.name.size ≤ maxLen ∧ (-9223372036854775808 ≤ a.v.int ∧ a.v.int ≤ 9223372036854775807) ∧ a.v.num < 2 ^ 64) (hg : ∀ a ∈ m, a.name.size ≤ maxLen ∧ (-9223372036854775808 ≤ a.v.int ∧ a.v.int ≤ 9223372036854775807) ∧ a.v.num < 2 ^ 64) :
    Calls Try.prog 10 #[lv, mv, .string s] w fun e w' => e = .returned (.bool true) ∧ Mod (fun _ => False) w w' := by
  have hs' : (s.size : Int) ≤ 9223372036854775807 := by simp only [maxLen] at hs; omega
  have hft := fit_at w
  have Hft := Lib.hid hft
  have Hv := Lib.hid hv
  have Hu := Lib.hid hu
  have Hf := Lib.hid hf
  have Hg := Lib.hid hg
  have Hll := Lib.hid hll
  have Hml := Lib.hid hml
  clear hft hv hu hf hg hll hml hs
  go_enter Try.func10, Try.ntmps10
  go_wp2_with fail
  refine Hft.out.mono ?_
  rintro e w1 ⟨rfl, hm1⟩
  have hlg := light_at w1 lv l (Hv.out.mod hm1 (fun _ _ h => h)) Hll.out
  have Hm1 := Lib.hid hm1
  have Hlg := Lib.hid hlg
  clear hm1 hlg Hft
  go_wp2_with fail
  refine Hlg.out.mono ?_
  rintro e w2 ⟨b, rfl, hb, hm2⟩
  have hm02 := Hm1.out.trans hm2 (fun _ _ h => h)
  have Hm02 := Lib.hid hm02
  clear hm02 hm2 Hlg Hm1
  cases b with
  | false =>
    clear hb
    go_wp2
    go_ret
    exact ⟨rfl, Hm02.out⟩
  | true =>
  have hl30 := hb rfl
  clear hb
  have hlgm := light_at w2 mv m (Hu.out.mod Hm02.out (fun _ _ h => h)) Hml.out
  have Hlgm := Lib.hid hlgm
  clear hlgm
  go_wp2_with fail
  refine Hlgm.out.mono ?_
  rintro e w3 ⟨b, rfl, hb, hm3⟩
  have hm03 := Hm02.out.trans hm3 (fun _ _ h => h)
  have Hm03 := Lib.hid hm03
  clear hm03 hm3 Hlgm Hm02
  cases b with
  | false =>
    clear hb
    go_wp2
    go_ret
    exact ⟨rfl, Hm03.out⟩
  | true =>
  have hm30 := hb rfl
  clear hb
  by_cases hsz : s.size ≤ 200
  rotate_left
  · have hsz' : (200 : Int) < s.size := by omega
    go_wp2
    go_ret
    exact ⟨rfl, Hm03.out⟩
  have hsz' : (s.size : Int) ≤ 200 := by omega
  have hnew := new_at w3 s lv l (Hv.out.mod Hm03.out (fun _ _ h => h)) (by omega)
  have Hnew := Lib.hid hnew
  clear hnew
  go_wp2_with fail
  refine Hnew.out.mono ?_
  rintro e w4 ⟨av, rfl, hown, -, hm4⟩
  have hm04 := Hm03.out.trans hm4 (fun _ _ h => h)
  have hlen := newL_length l
  have hnm := newL_mem (p := fun a => a.name.size ≤ maxLen) l (fun a ha => (Hf.out a ha).1)
  have htells := new_tells l (fun a ha => (Hf.out a ha).2)
  obtain ⟨L, hL⟩ : ∃ L, newL l = L := ⟨_, rfl⟩
  rw [hL] at hown hlen hnm htells
  have hll30 : L.length ≤ 30 := by omega
  obtain ⟨aa, ac, rfl, -⟩ := hown.shape
  have hnewm := new_at w4 s mv m (Hu.out.mod hm04 (fun _ _ h => h)) (by omega)
  have Hnewm := Lib.hid hnewm
  have Hm04 := Lib.hid hm04
  have Hown := Lib.hid hown
  have Hnm := Lib.hid hnm
  have Htells := Lib.hid htells
  have HL := Lib.hid hL
  clear hnewm hm04 hown hnm htells hL hm4 Hnew hlen
  go_wp2_with fail
  refine Hnewm.out.mono ?_
  rintro e w5 ⟨bv, rfl, hown2, -, hm5⟩
  have hm05 := Hm04.out.trans hm5 (fun _ _ h => h)
  have hlen := newL_length m
  have hnm2 := newL_mem (p := fun a => a.name.size ≤ maxLen) m (fun a ha => (Hg.out a ha).1)
  have htells2 := new_tells m (fun a ha => (Hg.out a ha).2)
  obtain ⟨M, hM⟩ : ∃ M, newL m = M := ⟨_, rfl⟩
  rw [hM] at hown2 hlen hnm2 htells2
  have hmm30 : M.length ≤ 30 := by omega
  obtain ⟨ba, bc, rfl, -⟩ := hown2.shape
  obtain ⟨wY, hwY⟩ : ∃ wY : World, w5.alloc (.cells #[.string ⟨#[]⟩, .slice none 0 0] 26) = wY := ⟨_, rfl⟩
  have hmwY : Mod (fun _ => False) w5 wY := hwY ▸ (Mod.refl (fun _ => False) w5).alloc _
  have hgwY := heap_alloc_new w5 (.cells #[.string ⟨#[]⟩, .slice none 0 0] 26)
  rw [hwY] at hgwY
  have hzwY : wY.heap.size = w5.heap.size + 1 := by rw [← hwY]; simp
  obtain ⟨wZ, hwZ⟩ : ∃ wZ : World, wY.alloc (.cells #[.string ⟨#[]⟩, .slice none 0 0] 26) = wZ := ⟨_, rfl⟩
  have hmwZ : Mod (fun _ => False) wY wZ := hwZ ▸ (Mod.refl (fun _ => False) wY).alloc _
  have hgwZ := heap_alloc_new wY (.cells #[.string ⟨#[]⟩, .slice none 0 0] 26)
  rw [hwZ] at hgwZ
  have hzwZ : wZ.heap.size = wY.heap.size + 1 := by rw [← hwZ]; simp
  have hgp := hmwZ.heap hgwY (fun h => h)
  have hmZ := hmwY.trans hmwZ (fun _ _ h => h)
  have hownZ := (Hown.out.mod hm5 (fun _ _ h => h)).mod hmZ (fun _ _ h => h)
  have hown2Z := hown2.mod hmZ (fun _ _ h => h)
  have hm0Z := hm05.trans hmZ (fun _ _ h => h)
  have hpq : w5.heap.size < wY.heap.size := by omega
  have hqz : wY.heap.size < wZ.heap.size := by omega
  have hl1 := Hown.out.lt
  have hl2 := hown2.lt
  have hz05 : w.heap.size ≤ w5.heap.size := hm05.size
  have hl1' : ∀ b, (Value.slice aa L.length ac).ownBlock = some b → b < w5.heap.size := fun b hb => by have := hl1 b hb; have := hm5.size; omega
  have Hm0Z := Lib.hid hm0Z
  have HownZ := Lib.hid hownZ
  have Hown2Z := Lib.hid hown2Z
  have Hgp := Lib.hid hgp
  have HgwZ := Lib.hid hgwZ
  have HwY := Lib.hid hwY
  have HwZ := Lib.hid hwZ
  have Hnm2 := Lib.hid hnm2
  have Htells2 := Lib.hid htells2
  have HM := Lib.hid hM
  have Hl1' := Lib.hid hl1'
  have Hl2 := Lib.hid hl2
  clear hm0Z hownZ hown2Z hgp hgwZ hwY hwZ hnm2 htells2 hM hl1' hl2 hm5 hm05 hown2 hmwY hmwZ hgwY hmZ hzwY hzwZ Hnewm hlen hl1 Hown Hm04
  go_wp2_with (first | (rw [show w5.alloc _ = wY from HwY.out]) | (rw [show wY.alloc _ = wZ from HwZ.out]) | ((with_reducible refine wpList_store_row_lit 26 (.tmp 7) (.tmp 26) ?_); refine ⟨w5.heap.size, rfl, _, _, Hgp.out, [.string s, .slice aa L.length ac], rfl, rfl, by kernel_rfl, rfl, ?_⟩; intro w6 hg6 hm6; have Hg6 := Lib.hid hg6; have Hm6 := Lib.hid hm6; have Hgq := Lib.hid (hm6.heap HgwZ.out (by omega)); clear hg6 hm6) | ((with_reducible refine wpList_store_row_lit 26 (.tmp 8) (.tmp 29) ?_); refine ⟨wY.heap.size, rfl, _, _, Hgq.out, [.string s, .slice ba M.length bc], rfl, rfl, by kernel_rfl, rfl, ?_⟩; intro w7 hg7 hm7; have Hq7 := Lib.hid hg7; have Hm7 := Lib.hid hm7; have Hp7 := Lib.hid (hm7.heap Hg6.out (by omega)); have c0 : w7.cell? ⟨w5.heap.size, 0, none⟩ = some (.string s) := cell_of Hp7.out rfl; have c1 : w7.cell? ⟨w5.heap.size, 1, none⟩ = some (.slice aa L.length ac) := cell_of Hp7.out rfl; clear hg7 hm7) | fail)
  have hrt := right_at s (.slice aa L.length ac) L w7 ((HownZ.out.mod Hm6.out (fun b hb => by have := Hl1'.out b hb; omega)).mod Hm7.out (fun b hb => by have := Hl1'.out b hb; omega)).rd (by omega) (fun x hx => by have := Hnm.out x hx; simp only [maxLen] at this; omega)
  refine hrt.mono ?_
  rintro e w8 ⟨rfl, hm8⟩
  have hl2' : ∀ b, (Value.slice ba M.length bc).ownBlock = some b → b ≠ w5.heap.size ∧ b ≠ wY.heap.size := fun b hb => by have := Hl2.out b hb; omega
  have hp8 := hm8.heap Hp7.out (fun h => h)
  have hq8 := hm8.heap Hq7.out (fun h => h)
  have hown8 := ((HownZ.out.mod Hm6.out (fun b hb => by have := Hl1'.out b hb; omega)).mod Hm7.out (fun b hb => by have := Hl1'.out b hb; omega)).mod hm8 (fun _ _ h => h)
  have hownm8 := ((Hown2Z.out.mod Hm6.out (fun b hb => (hl2' b hb).1)).mod Hm7.out (fun b hb => (hl2' b hb).2)).mod hm8 (fun _ _ h => h)
  have hm08 : Mod (fun _ => False) w w8 := ((Hm0Z.out.upon Hm6.out (fun b hb => .inr (by omega))).upon Hm7.out (fun b hb => .inr (by omega))).trans hm8 (fun _ _ h => h)
  have c0 : w8.cell? ⟨wY.heap.size, 0, none⟩ = some (.string s) := cell_of hq8 rfl
  have c1 : w8.cell? ⟨wY.heap.size, 1, none⟩ = some (.slice ba M.length bc) := cell_of hq8 rfl
  have Hp8 := Lib.hid hp8
  have Hq8 := Lib.hid hq8
  have Hown8 := Lib.hid hown8
  have Hownm8 := Lib.hid hownm8
  have Hm08 := Lib.hid hm08
  have Hl2' := Lib.hid hl2'
  clear hp8 hq8 hown8 hownm8 hm08 hl2' hm8 hrt
  cases hr : evRight L with
  | false =>
    clear hr
    go_wp2
    go_ret
    exact ⟨rfl, Hm08.out⟩
  | true =>
  have hrtm := right_at s (.slice ba M.length bc) M w8 Hownm8.out.rd (by omega) (fun x hx => by have := Hnm2.out x hx; simp only [maxLen] at this; omega)
  have Hr := Lib.hid hr
  have Hrtm := Lib.hid hrtm
  clear hr hrtm
  go_wp2_with fail
  refine Hrtm.out.mono ?_
  rintro e w9 ⟨rfl, hm9⟩
  have hp9 := hm9.heap Hp8.out (fun h => h)
  have hq9 := hm9.heap Hq8.out (fun h => h)
  have hown9 := Hown8.out.mod hm9 (fun _ _ h => h)
  have hownm9 := Hownm8.out.mod hm9 (fun _ _ h => h)
  have hm09 := Hm08.out.trans hm9 (fun _ _ h => h)
  have Hp9 := Lib.hid hp9
  have Hq9 := Lib.hid hq9
  have Hown9 := Lib.hid hown9
  have Hownm9 := Lib.hid hownm9
  have Hm09 := Lib.hid hm09
  clear hp9 hq9 hown9 hownm9 hm09 hm9 Hrtm c0 c1
  cases hr2 : evRight M with
  | false =>
    clear hr2
    go_wp2
    go_ret
    exact ⟨rfl, Hm09.out⟩
  | true =>
  have htl := Htells.out Hr.out
  have htm := Htells2.out hr2
  have hap := ev_apart s L M (by omega) Hr.out hr2 htl htm
  have hsame := fun w' hw' hw'' => evsame_at w' s s (.slice aa L.length ac) (.slice ba M.length bc) L M hw' hw'' (by omega) (by omega) (fun x hx => (htl x hx).v.num) (fun x hx => (htm x hx).v.num)
  rw [beq_self_eq_true, Bool.true_and] at hsame
  have hevl := fun w' hw' hw'' => ev_bytes w' s (by omega) (.slice aa L.length ac) L hw' hw'' (by omega) (fun a ha => Att.tells_fit (htl a ha))
  have hevm := fun w' hw' hw'' => ev_bytes w' s (by omega) (.slice ba M.length bc) M hw' hw'' (by omega) (fun a ha => Att.tells_fit (htm a ha))
  obtain ⟨B1, hB1⟩ : ∃ B, evBytes s L = B := ⟨_, rfl⟩
  obtain ⟨B2, hB2⟩ : ∃ B, evBytes s M = B := ⟨_, rfl⟩
  obtain ⟨E, hE⟩ : ∃ E, attsSame L M = E := ⟨_, rfl⟩
  rw [hB1] at hap hevl
  rw [hB2] at hap hevm
  rw [hE] at hap hsame
  have Hr2 := Lib.hid hr2
  have Htl := Lib.hid htl
  have Htm := Lib.hid htm
  have Hap := Lib.hid hap
  have Hsame := Lib.hid hsame
  have Hevl := Lib.hid hevl
  have Hevm := Lib.hid hevm
  have HB1 := Lib.hid hB1
  have HB2 := Lib.hid hB2
  have HE := Lib.hid hE
  clear hr2 htl htm hap hsame hevl hevm hB1 hB2 hE
  go_wp2_with fail
  refine wp_region_news2 [.rd 0, .rd 3, .rd 7, .rd 8, .go 1, .rd 2, .go 4, .rd 5, .rd 6, .go 9, .go 10, .go 11] [0, 1, 2, 3, 4, 5, 6, 7, 8, 9] (by kernel_rfl) (by kernel_rfl) (fun _ _ d _ _ h => (by cases d <;> exact h)) ?_
  refine news_rd rfl rfl ?_ (fun y : World => y.heap[w5.heap.size]? = some (.cells #[.string s, .slice aa L.length ac] 26 (0, 0)) ∧ y.heap[wY.heap.size]? = some (.cells #[.string s, .slice ba M.length bc] 26 (0, 0))) (fun _ _ m h => ⟨m.heap h.1 (fun h => h), m.heap h.2 (fun h => h)⟩) ⟨heap_drew_ Hp9.out, heap_drew_ Hq9.out⟩ ?_ (fun w0 h0 => ?_) (fun K hK => ?_)
  · (try simp only [List.getElem_toArray]); (try simp only [List.getElem_cons_succ]); (try simp only [List.getElem_cons_zero])
    go_simp; done
  rotate_left
  · (try simp only [List.getElem_toArray]); (try simp only [List.getElem_cons_succ]); (try simp only [List.getElem_cons_zero])
    obtain ⟨h1, h2⟩ := h0; have f0 := cell_of (j := 0) h1 rfl; have f1 := cell_of (j := 1) h1 rfl; have g0 := cell_of (j := 0) h2 rfl; have g1 := cell_of (j := 1) h2 rfl; clear h1 h2; go_simp; with_reducible rfl
  (try simp only [List.getElem_toArray]); (try simp only [List.getElem_cons_succ]); (try simp only [List.getElem_cons_zero])
  go_simp; refine hK _ ?_; clear hK K
  refine news_rd rfl rfl ?_ (fun y : World => y.heap[w5.heap.size]? = some (.cells #[.string s, .slice aa L.length ac] 26 (0, 0)) ∧ y.heap[wY.heap.size]? = some (.cells #[.string s, .slice ba M.length bc] 26 (0, 0))) (fun _ _ m h => ⟨m.heap h.1 (fun h => h), m.heap h.2 (fun h => h)⟩) ⟨heap_drew_ Hp9.out, heap_drew_ Hq9.out⟩ ?_ (fun w0 h0 => ?_) (fun K hK => ?_)
  · (try simp only [List.getElem_toArray]); (try simp only [List.getElem_cons_succ]); (try simp only [List.getElem_cons_zero])
    go_simp; done
  rotate_left
  · (try simp only [List.getElem_toArray]); (try simp only [List.getElem_cons_succ]); (try simp only [List.getElem_cons_zero])
    obtain ⟨h1, h2⟩ := h0; have f0 := cell_of (j := 0) h1 rfl; have f1 := cell_of (j := 1) h1 rfl; have g0 := cell_of (j := 0) h2 rfl; have g1 := cell_of (j := 1) h2 rfl; clear h1 h2; go_simp; with_reducible rfl
  (try simp only [List.getElem_toArray]); (try simp only [List.getElem_cons_succ]); (try simp only [List.getElem_cons_zero])
  go_simp; refine hK _ ?_; clear hK K
  refine news_rd rfl rfl ?_ (fun y : World => y.heap[w5.heap.size]? = some (.cells #[.string s, .slice aa L.length ac] 26 (0, 0)) ∧ y.heap[wY.heap.size]? = some (.cells #[.string s, .slice ba M.length bc] 26 (0, 0))) (fun _ _ m h => ⟨m.heap h.1 (fun h => h), m.heap h.2 (fun h => h)⟩) ⟨heap_drew_ Hp9.out, heap_drew_ Hq9.out⟩ ?_ (fun w0 h0 => ?_) (fun K hK => ?_)
  · (try simp only [List.getElem_toArray]); (try simp only [List.getElem_cons_succ]); (try simp only [List.getElem_cons_zero])
    go_simp; done
  rotate_left
  · (try simp only [List.getElem_toArray]); (try simp only [List.getElem_cons_succ]); (try simp only [List.getElem_cons_zero])
    obtain ⟨h1, h2⟩ := h0; have f0 := cell_of (j := 0) h1 rfl; have f1 := cell_of (j := 1) h1 rfl; have g0 := cell_of (j := 0) h2 rfl; have g1 := cell_of (j := 1) h2 rfl; clear h1 h2; go_simp; with_reducible rfl
  (try simp only [List.getElem_toArray]); (try simp only [List.getElem_cons_succ]); (try simp only [List.getElem_cons_zero])
  go_simp; refine hK _ ?_; clear hK K
  refine news_rd rfl rfl ?_ (fun y : World => y.heap[w5.heap.size]? = some (.cells #[.string s, .slice aa L.length ac] 26 (0, 0)) ∧ y.heap[wY.heap.size]? = some (.cells #[.string s, .slice ba M.length bc] 26 (0, 0))) (fun _ _ m h => ⟨m.heap h.1 (fun h => h), m.heap h.2 (fun h => h)⟩) ⟨heap_drew_ Hp9.out, heap_drew_ Hq9.out⟩ ?_ (fun w0 h0 => ?_) (fun K hK => ?_)
  · (try simp only [List.getElem_toArray]); (try simp only [List.getElem_cons_succ]); (try simp only [List.getElem_cons_zero])
    go_simp; done
  rotate_left
  · (try simp only [List.getElem_toArray]); (try simp only [List.getElem_cons_succ]); (try simp only [List.getElem_cons_zero])
    obtain ⟨h1, h2⟩ := h0; have f0 := cell_of (j := 0) h1 rfl; have f1 := cell_of (j := 1) h1 rfl; have g0 := cell_of (j := 0) h2 rfl; have g1 := cell_of (j := 1) h2 rfl; clear h1 h2; go_simp; with_reducible rfl
  (try simp only [List.getElem_toArray]); (try simp only [List.getElem_cons_succ]); (try simp only [List.getElem_cons_zero])
  go_simp; refine hK _ ?_; clear hK K
  refine news_one (newsgo_yes rfl ?_ (fun K hK => ?_))
  · (try simp only [List.getElem_toArray]); (try simp only [List.getElem_cons_succ]); (try simp only [List.getElem_cons_zero])
    go_simp; done
  go_wp2_with fail
  refine (Hevl.out w9.drew ((Hown9.out.drew).rd) Hown9.out.drew.lt).mono ?_
  rintro e wa ⟨va, rfl, howna, -, hma⟩
  obtain ⟨Ga, hba, hGa⟩ := own_bytes2 howna
  obtain ⟨xa, ca, rfl, -⟩ := howna.shape
  have hm9a : Mod (fun _ => False) w9 wa := ((Mod.refl _ w9).drew).trans hma (fun _ _ h => h)
  refine hK _ _ (fun _ => hma) ?_
  clear hK K
  refine news_rd rfl rfl ?_ (fun y : World => BytesAt y Ga (.slice xa B1.length ca) B1) (fun _ _ m h => h.mod m (fun _ h => h)) hba ?_ (fun w0 h0 => ?_) (fun K hK => ?_)
  · (try simp only [List.getElem_toArray]); (try simp only [List.getElem_cons_succ]); (try simp only [List.getElem_cons_zero])
    go_simp; done
  rotate_left
  · (try simp only [List.getElem_toArray]); (try simp only [List.getElem_cons_succ]); (try simp only [List.getElem_cons_zero])
    have hcv := conv_at h0; clear h0; go_simp; with_reducible rfl
  (try simp only [List.getElem_toArray]); (try simp only [List.getElem_cons_succ]); (try simp only [List.getElem_cons_zero])
  go_simp; refine hK _ ?_; clear hK K
  refine news_one (newsgo_yes rfl ?_ (fun K hK => ?_))
  · (try simp only [List.getElem_toArray]); (try simp only [List.getElem_cons_succ]); (try simp only [List.getElem_cons_zero])
    go_simp; done
  go_wp2_with fail
  refine (Hevm.out wa (Hownm9.out.mod hm9a (fun _ _ h => h)).rd (Hownm9.out.mod hm9a (fun _ _ h => h)).lt).mono ?_
  rintro e wb ⟨vb, rfl, hownb, -, hmb⟩
  obtain ⟨Gb, hbb, hGb⟩ := own_bytes2 hownb
  obtain ⟨xb, cb, rfl, -⟩ := hownb.shape
  have hm9b : Mod (fun _ => False) w9 wb := hm9a.trans hmb (fun _ _ h => h)
  refine hK _ _ (fun _ => hmb) ?_
  clear hK K
  refine news_rd rfl rfl ?_ (fun y : World => BytesAt y Gb (.slice xb B2.length cb) B2) (fun _ _ m h => h.mod m (fun _ h => h)) hbb ?_ (fun w0 h0 => ?_) (fun K hK => ?_)
  · (try simp only [List.getElem_toArray]); (try simp only [List.getElem_cons_succ]); (try simp only [List.getElem_cons_zero])
    go_simp; done
  rotate_left
  · (try simp only [List.getElem_toArray]); (try simp only [List.getElem_cons_succ]); (try simp only [List.getElem_cons_zero])
    have hcv := conv_at h0; clear h0; go_simp; with_reducible rfl
  (try simp only [List.getElem_toArray]); (try simp only [List.getElem_cons_succ]); (try simp only [List.getElem_cons_zero])
  go_simp; refine hK _ ?_; clear hK K
  refine news_pure rfl ?_ ?_ (fun w0 => ?_) (fun K hK => ?_)
  · (try simp only [List.getElem_toArray]); (try simp only [List.getElem_cons_succ]); (try simp only [List.getElem_cons_zero])
    go_simp; done
  rotate_left
  · (try simp only [List.getElem_toArray]); (try simp only [List.getElem_cons_succ]); (try simp only [List.getElem_cons_zero])
    go_simp; with_reducible rfl
  (try simp only [List.getElem_toArray]); (try simp only [List.getElem_cons_succ]); (try simp only [List.getElem_cons_zero])
  go_simp; refine hK _ ?_; clear hK K
  refine news_one (newsgo_yes rfl ?_ (fun K hK => ?_))
  · (try simp only [List.getElem_toArray]); (try simp only [List.getElem_cons_succ]); (try simp only [List.getElem_cons_zero])
    go_simp; done
  go_wp2_with fail
  refine (Hsame.out wb (Hown9.out.mod hm9b (fun _ _ h => h)).rd (Hownm9.out.mod hm9b (fun _ _ h => h)).rd).mono ?_
  rintro e wc ⟨rfl, hmc⟩
  have hm0c := Hm09.out.trans (hm9b.trans hmc (fun _ _ h => h)) (fun _ _ h => h)
  refine hK _ _ (fun _ => hmc) ?_
  clear hK K
  have hE1 : ((str B1).toList == (str B2).toList) = E := by
    rw [← Hap.out, ByteArray.toList_eq, ByteArray.toList_eq]
    simp [str]
  have HE1 := Lib.hid hE1
  have Hm0c := Lib.hid hm0c
  clear hm0c hE1 hmc hmb hm9b hm9a hma hownb howna hba hbb
  refine news_one (newsgo_yes rfl ?_ (fun K hK => ?_))
  · (try simp only [List.getElem_toArray]); (try simp only [List.getElem_cons_succ]); (try simp only [List.getElem_cons_zero])
    go_simp; done
  (try simp only [List.getElem_toArray]); (try simp only [List.getElem_cons_succ]); (try simp only [List.getElem_cons_zero])
  go_simp
  refine hK _ _ (fun h => absurd h (by decide)) ?_
  clear hK K
  refine news_one (newsgo_yes rfl ?_ (fun K hK => ?_))
  · (try simp only [List.getElem_toArray]); (try simp only [List.getElem_cons_succ]); (try simp only [List.getElem_cons_zero])
    go_simp; done
  (try simp only [List.getElem_toArray]); (try simp only [List.getElem_cons_succ]); (try simp only [List.getElem_cons_zero])
  go_simp
  refine hK _ _ (fun h => absurd h (by decide)) ?_
  clear hK K
  refine news_nil ?_
  go_wp2
  go_ret
  refine ⟨?_, Hm0c.out⟩
  rw [HE1.out]
  show Ending.returned (.bool (E == E)) = _
  rw [beq_self_eq_true]
end Go.Proofs.Ytfpghpicknnfgaa
