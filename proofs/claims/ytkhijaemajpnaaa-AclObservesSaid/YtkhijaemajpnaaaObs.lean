/-
  AclObserves: who is there may subscribe to what one of its rules covers, and nothing else.
-/
import Derived.Test.YtkhijaemajpnaaaMask
import Derived.Deep.DeepCutAuto
import Derived.Deep.CutBlock
namespace Go.Proofs.Ytkhijaemajpnaaa
open Go.RowKit

set_option maxRecDepth 20000 in
set_option maxHeartbeats 8000000 in
theorem observes_walk (w : World) (v : Value) (l : List Ru) (hv : RuSl w v l) (hll : l.length ≤ 9223372036854775807) (hn : RuNum l) (x y : Int) (gs : ByteArray) (gv : Value) (m : List Cnd) (hg : RdSl w 7 gv m.length (cnds m)) (hml : m.length ≤ 9223372036854775807) (hgs : gs.size ≤ 9223372036854775807)
    (hm : ∀ d ∈ m, d.name.size ≤ 9223372036854775807 ∧ d.v.text.size ≤ 9223372036854775807 ∧ d.v.num < 2 ^ 64) :
    Calls Try.prog 4 #[v, .agg #[.int .i64 x, .int .i64 y], .agg #[.string gs, gv]] w fun e w' => e = .returned (.bool true) ∧ Mod (fun _ => False) w w' := by
  obtain ⟨ga, gc, rfl, hgc⟩ : ∃ a c, gv = .slice a m.length c ∧ m.length ≤ c := by obtain ⟨-, a, c, h, h2, -⟩ := hg; exact ⟨a, c, h, h2⟩
  obtain ⟨wa, hwa⟩ : ∃ wa : World, w.alloc (.cells #[.int .i64 x, .int .i64 y] 33) = wa := ⟨_, rfl⟩
  have hmwa : Mod (fun _ => False) w wa := hwa ▸ (Mod.refl (fun _ => False) w).alloc _
  have hgwa := heap_alloc_new w (.cells #[.int .i64 x, .int .i64 y] 33)
  rw [hwa] at hgwa
  have hzwa : wa.heap.size = w.heap.size + 1 := by rw [← hwa]; simp
  obtain ⟨wb, hwb⟩ : ∃ wb : World, wa.alloc (.cells #[.string gs, .slice ga m.length gc] 24) = wb := ⟨_, rfl⟩
  have hmwb : Mod (fun _ => False) wa wb := hwb ▸ (Mod.refl (fun _ => False) wa).alloc _
  have hgwb := heap_alloc_new wa (.cells #[.string gs, .slice ga m.length gc] 24)
  rw [hwb] at hgwb
  have hzwb : wb.heap.size = wa.heap.size + 1 := by rw [← hwb]; simp
  have hmb := hmwa.trans hmwb (fun _ _ h => h)
  have hI := hmwb.heap hgwa (fun h => h)
  have hft := fit10_at wb
  have hlz : w.heap.size < wa.heap.size := by omega
  have Hwa := Lib.hid hwa
  have Hwb := Lib.hid hwb
  have Hmb := Lib.hid hmb
  have HI := Lib.hid hI
  have Hgwb := Lib.hid hgwb
  have Hft := Lib.hid hft
  have Hv := Lib.hid hv
  have Hn := Lib.hid hn
  have Hg := Lib.hid hg
  have Hm := Lib.hid hm
  have Hll := Lib.hid hll
  have Hml := Lib.hid hml
  have Hgs := Lib.hid hgs
  clear hwa hwb hmb hI hgwb hft hv hn hg hm hll hml hgs hmwa hmwb hgwa hzwa hzwb
  go_enter Try.func4, Try.ntmps4
  go_wp2_with (first | (rw [show w.alloc _ = wa from Hwa.out]) | (rw [show wa.alloc _ = wb from Hwb.out]) | fail)
  refine Hft.out.mono ?_
  rintro e w1 ⟨rfl, hm1⟩
  have hm01 := Hmb.out.trans hm1 (fun _ _ h => h)
  have hI1 := hm1.heap HI.out (fun h => h)
  have hG1 := hm1.heap Hgwb.out (fun h => h)
  have hli := light10_at w1 v l (Hv.out.mod hm01) Hll.out
  have Hm01 := Lib.hid hm01
  have HI1 := Lib.hid hI1
  have HG1 := Lib.hid hG1
  have Hli := Lib.hid hli
  clear hm01 hI1 hG1 hli hm1 Hft HI Hgwb Hmb
  go_wp2_with fail
  refine Hli.out.mono ?_
  rintro e w2 ⟨b, rfl, hb, hm2⟩
  have hm02 := Hm01.out.trans hm2 (fun _ _ h => h)
  have hI2 := hm2.heap HI1.out (fun h => h)
  have hG2 := hm2.heap HG1.out (fun h => h)
  cases b with
  | false =>
    have Hm02 := Lib.hid hm02
    clear hm02 hm2 hI2 hG2 hb
    go_wp2
    go_ret
    exact ⟨rfl, Hm02.out⟩
  | true =>
  have hl80 := hb rfl
  have hlf := light07_at w2 gs (.slice ga m.length gc) m (Hg.out.mod hm02 (fun _ _ h => h)) Hml.out
  have Hm02 := Lib.hid hm02
  have HI2 := Lib.hid hI2
  have HG2 := Lib.hid hG2
  have Hlf := Lib.hid hlf
  clear hm02 hI2 hG2 hlf hm2 hb HI1 HG1 Hli Hm01
  have g0 : w2.cell? ⟨wa.heap.size, 0, none⟩ = some (.string gs) := cell_of HG2.out rfl
  have g1 : w2.cell? ⟨wa.heap.size, 1, none⟩ = some (.slice ga m.length gc) := cell_of HG2.out rfl
  go_wp2_with fail
  refine Hlf.out.mono ?_
  rintro e w3 ⟨b, rfl, hm3⟩
  have hm03 := Hm02.out.trans hm3 (fun _ _ h => h)
  have hI3 := hm3.heap HI2.out (fun h => h)
  have hG3 := hm3.heap HG2.out (fun h => h)
  have hfr := filter_right w3 gs (.slice ga m.length gc) m (Hg.out.mod hm03 (fun _ _ h => h)) Hml.out Hgs.out (fun c hc => (Hm.out c hc).1)
  have Hm03 := Lib.hid hm03
  have HI3 := Lib.hid hI3
  have HG3 := Lib.hid hG3
  have Hfr := Lib.hid hfr
  clear hm03 hI3 hG3 hfr hm3 HI2 HG2 Hlf Hm02 g0 g1
  have g0 : w3.cell? ⟨wa.heap.size, 0, none⟩ = some (.string gs) := cell_of HG3.out rfl
  have g1 : w3.cell? ⟨wa.heap.size, 1, none⟩ = some (.slice ga m.length gc) := cell_of HG3.out rfl
  cases b with
  | false =>
    go_wp2
    go_ret
    exact ⟨rfl, Hm03.out⟩
  | true =>
  go_wp2_with fail
  refine Hfr.out.mono ?_
  rintro e w4 ⟨rfl, hm4⟩
  have hm04 := Hm03.out.trans hm4 (fun _ _ h => h)
  have hI4 := hm4.heap HI3.out (fun h => h)
  have hG4 := hm4.heap HG3.out (fun h => h)
  have hri := rights_at w4 v l (Hv.out.mod hm04) (by omega)
  have Hm04 := Lib.hid hm04
  have HI4 := Lib.hid hI4
  have HG4 := Lib.hid hG4
  have Hri := Lib.hid hri
  clear hm04 hI4 hG4 hri hm4 HI3 HG3 Hfr Hm03 g0 g1
  cases hfr : filRight gs m with
  | false =>
    clear hfr
    go_wp2
    go_ret
    exact ⟨rfl, Hm04.out⟩
  | true =>
  have Hfr := Lib.hid hfr
  clear hfr
  go_wp2_with fail
  refine Hri.out.mono ?_
  rintro e w5 ⟨ov, rfl, hown, -, hm5⟩
  have hm05 := Hm04.out.trans hm5 (fun _ _ h => h)
  have hI5 := hm5.heap HI4.out (fun h => h)
  have hG5 := hm5.heap HG4.out (fun h => h)
  have hL := rights_sl Hv.out hown hm05
  have hLn : RuNum (l.filter Ru.rightB) := Hn.out.filter
  have hLb : ∀ t who, ∀ r ∈ l.filter Ru.rightB, r.of 0 t who = true → 0 ≤ r.broker := fun t who => rights_broker
  have hLr : ∀ r ∈ l.filter Ru.rightB, r.rightB = true := fun r hr => (List.mem_filter.1 hr).2
  have hLl : (l.filter Ru.rightB).length ≤ 80 := Nat.le_trans (List.length_filter_le _ _) hl80
  obtain ⟨L, hLL⟩ : ∃ L, l.filter Ru.rightB = L := ⟨_, rfl⟩
  rw [hLL] at hown hL hLn hLb hLr hLl
  obtain ⟨oa, oc, rfl, -⟩ := hown.shape
  obtain ⟨t, ht, ht2⟩ := and1 x
  obtain ⟨u, hu, hu2⟩ := and3 y
  have hu3 : (u : Int) < 4 := by omega
  have hu0 : (0 : Int) ≤ u := by omega
  have Hm05 := Lib.hid hm05
  have HI5 := Lib.hid hI5
  have HG5 := Lib.hid hG5
  have HL := Lib.hid hL
  have HLn := Lib.hid hLn
  have HLb := Lib.hid hLb
  have HLr := Lib.hid hLr
  clear hm05 hI5 hG5 hL hLn hLb hLr hm5 hown hLL HI4 HG4 Hri Hm04 hl80
  go_wp2_with fail
  obtain ⟨W, hW, -⟩ := who_at hu2
  refine wp_region_news2 [.rd 0, .rd 1, .rd 2, .rd 9, .rd 4, .rd 5, .rd 6, .go 3, .rd 7, .rd 8, .rd 10] [0, 1, 2, 3, 4, 5, 6, 7, 8, 9, 10] (by kernel_rfl) (by kernel_rfl) (fun _ _ d _ _ h => (by cases d <;> exact h)) ?_
  refine news_pure rfl ?_ ?_ (fun w0 => ?_) (fun K hK => ?_)
  · (try simp only [List.getElem_toArray]); (try simp only [List.getElem_cons_succ]); (try simp only [List.getElem_cons_zero])
    go_simp; done
  rotate_left
  · (try simp only [List.getElem_toArray]); (try simp only [List.getElem_cons_succ]); (try simp only [List.getElem_cons_zero])
    go_simp; with_reducible rfl
  (try simp only [List.getElem_toArray]); (try simp only [List.getElem_cons_succ]); (try simp only [List.getElem_cons_zero])
  go_simp; refine hK _ ?_; clear hK K
  refine news_rd rfl rfl ?_ ((fun y : World => y.cell? ⟨w.heap.size, 0, none⟩ = some (.int .i64 x))) ((fun _ _ m h => m.cell h (fun h => h))) ((cell_of HI5.out rfl)) ?_ (fun w0 h0 => ?_) (fun K hK => ?_)
  · (try simp only [List.getElem_toArray]); (try simp only [List.getElem_cons_succ]); (try simp only [List.getElem_cons_zero])
    go_simp; done
  rotate_left
  · (try simp only [List.getElem_toArray]); (try simp only [List.getElem_cons_succ]); (try simp only [List.getElem_cons_zero])
    go_simp; with_reducible rfl
  (try simp only [List.getElem_toArray]); (try simp only [List.getElem_cons_succ]); (try simp only [List.getElem_cons_zero])
  go_simp; refine hK _ ?_; clear hK K
  refine news_pure rfl ?_ ?_ (fun w0 => ?_) (fun K hK => ?_)
  · (try simp only [List.getElem_toArray]); (try simp only [List.getElem_cons_succ]); (try simp only [List.getElem_cons_zero])
    go_simp; done
  rotate_left
  · (try simp only [List.getElem_toArray]); (try simp only [List.getElem_cons_succ]); (try simp only [List.getElem_cons_zero])
    go_simp; with_reducible rfl
  (try simp only [List.getElem_toArray]); (try simp only [List.getElem_cons_succ]); (try simp only [List.getElem_cons_zero])
  go_simp; refine hK _ ?_; clear hK K
  refine news_pure rfl ?_ ?_ (fun w0 => ?_) (fun K hK => ?_)
  · (try simp only [List.getElem_toArray]); (try simp only [List.getElem_cons_succ]); (try simp only [List.getElem_cons_zero])
    go_simp; done
  rotate_left
  · (try simp only [List.getElem_toArray]); (try simp only [List.getElem_cons_succ]); (try simp only [List.getElem_cons_zero])
    go_simp; with_reducible rfl
  (try simp only [List.getElem_toArray]); (try simp only [List.getElem_cons_succ]); (try simp only [List.getElem_cons_zero])
  go_simp; refine hK _ ?_; clear hK K
  refine news_pure rfl ?_ ?_ (fun w0 => ?_) (fun K hK => ?_)
  · (try simp only [List.getElem_toArray]); (try simp only [List.getElem_cons_succ]); (try simp only [List.getElem_cons_zero])
    go_simp; done
  rotate_left
  · (try simp only [List.getElem_toArray]); (try simp only [List.getElem_cons_succ]); (try simp only [List.getElem_cons_zero])
    go_simp; with_reducible rfl
  (try simp only [List.getElem_toArray]); (try simp only [List.getElem_cons_succ]); (try simp only [List.getElem_cons_zero])
  go_simp; refine hK _ ?_; clear hK K
  refine news_rd rfl rfl ?_ ((fun z : World => z.cell? ⟨w.heap.size, 1, none⟩ = some (.int .i64 y))) ((fun _ _ m h => m.cell h (fun h => h))) ((cell_of HI5.out rfl)) ?_ (fun w0 h0 => ?_) (fun K hK => ?_)
  · (try simp only [List.getElem_toArray]); (try simp only [List.getElem_cons_succ]); (try simp only [List.getElem_cons_zero])
    go_simp; done
  rotate_left
  · (try simp only [List.getElem_toArray]); (try simp only [List.getElem_cons_succ]); (try simp only [List.getElem_cons_zero])
    go_simp; with_reducible rfl
  (try simp only [List.getElem_toArray]); (try simp only [List.getElem_cons_succ]); (try simp only [List.getElem_cons_zero])
  go_simp; refine hK _ ?_; clear hK K
  refine news_pure rfl ?_ ?_ (fun w0 => ?_) (fun K hK => ?_)
  · (try simp only [List.getElem_toArray]); (try simp only [List.getElem_cons_succ]); (try simp only [List.getElem_cons_zero])
    go_simp; done
  rotate_left
  · (try simp only [List.getElem_toArray]); (try simp only [List.getElem_cons_succ]); (try simp only [List.getElem_cons_zero])
    go_simp; with_reducible rfl
  (try simp only [List.getElem_toArray]); (try simp only [List.getElem_cons_succ]); (try simp only [List.getElem_cons_zero])
  go_simp; refine hK _ ?_; clear hK K
  refine news_one (newsgo_yes rfl ?_ (fun K hK => ?_))
  · (try simp only [List.getElem_toArray]); (try simp only [List.getElem_cons_succ]); (try simp only [List.getElem_cons_zero])
    go_simp; done
  obtain ⟨wj, hwj⟩ : ∃ wj : World, w5.alloc (.cells #[.string ⟨#[97]⟩, .string ⟨#[98]⟩, .string ⟨#[99]⟩, .string ⟨#[100]⟩] 9) = wj := ⟨_, rfl⟩
  have hmwj : Mod (fun _ => False) w5 wj := hwj ▸ (Mod.refl (fun _ => False) w5).alloc _
  have hgwj := heap_alloc_new w5 (.cells #[.string ⟨#[97]⟩, .string ⟨#[98]⟩, .string ⟨#[99]⟩, .string ⟨#[100]⟩] 9)
  rw [hwj] at hgwj
  have hzwj : wj.heap.size = w5.heap.size + 1 := by rw [← hwj]; simp
  go_simp
  refine hK _ _ (fun _ => ⟨hmwj.os, hmwj.tape, hmwj.output, hmwj.size, hmwj.block⟩) ?_
  clear hK K
  obtain ⟨wk, hwk⟩ : ∃ wk, wj.drew = wk := ⟨_, rfl⟩
  have hm5k : Mod (fun _ => False) w5 wk := hwk ▸ hmwj.drew
  have hkW : wk.cell? ⟨w5.heap.size, u, none⟩ = some (.string W) := hwk ▸ (cell_of_row wj w5.heap.size u _ _ _ hgwj).trans hW
  rw [hwk]
  refine news_pure rfl ?_ ?_ (fun w0 => ?_) (fun K hK => ?_)
  · (try simp only [List.getElem_toArray]); (try simp only [List.getElem_cons_succ]); (try simp only [List.getElem_cons_zero])
    go_simp; done
  rotate_left
  · (try simp only [List.getElem_toArray]); (try simp only [List.getElem_cons_succ]); (try simp only [List.getElem_cons_zero])
    go_simp; with_reducible rfl
  (try simp only [List.getElem_toArray]); (try simp only [List.getElem_cons_succ]); (try simp only [List.getElem_cons_zero])
  go_simp; refine hK _ ?_; clear hK K
  refine news_rd rfl rfl ?_ ((fun z : World => z.cell? ⟨w5.heap.size, u, none⟩ = some (.string W))) ((fun _ _ m h => m.cell h (fun h => h))) (hkW) ?_ (fun w0 h0 => ?_) (fun K hK => ?_)
  · (try simp only [List.getElem_toArray]); (try simp only [List.getElem_cons_succ]); (try simp only [List.getElem_cons_zero])
    go_simp; done
  rotate_left
  · (try simp only [List.getElem_toArray]); (try simp only [List.getElem_cons_succ]); (try simp only [List.getElem_cons_zero])
    go_simp; with_reducible rfl
  (try simp only [List.getElem_toArray]); (try simp only [List.getElem_cons_succ]); (try simp only [List.getElem_cons_zero])
  go_simp; refine hK _ ?_; clear hK K
  refine news_pure rfl ?_ ?_ (fun w0 => ?_) (fun K hK => ?_)
  · (try simp only [List.getElem_toArray]); (try simp only [List.getElem_cons_succ]); (try simp only [List.getElem_cons_zero])
    go_simp; done
  rotate_left
  · (try simp only [List.getElem_toArray]); (try simp only [List.getElem_cons_succ]); (try simp only [List.getElem_cons_zero])
    go_simp; with_reducible rfl
  (try simp only [List.getElem_toArray]); (try simp only [List.getElem_cons_succ]); (try simp only [List.getElem_cons_zero])
  go_simp; refine hK _ ?_; clear hK K
  refine news_nil ?_
  have hm0k := Hm05.out.trans hm5k (fun _ _ h => h)
  have hGk := hm5k.heap HG5.out (fun h => h)
  have hLk := HL.out.mod hm5k
  have hmo := may_observe (covB gs m) wk (.slice oa L.length oc) L hLk (by omega) t W gs ga m.length gc (fun r hr wx hwx ho => covers_at wx r ((hLk.ok r hr).mod hwx) (HLn.out r hr) gs (.slice ga m.length gc) m (Hg.out.mod (hm0k.trans hwx (fun _ _ h => h)) (fun _ _ h => h)) Hml.out Hgs.out (fun d hd => (Hm.out d hd).2))
  obtain ⟨B, hB⟩ : ∃ B, ((homeOf L t W).isSome && L.any fun r => r.of 2 t W && covB gs m r) = B := ⟨_, rfl⟩
  rw [hB] at hmo
  have Hm0k := Lib.hid hm0k
  have HGk := Lib.hid hGk
  have HLk := Lib.hid hLk
  have Hmo := Lib.hid hmo
  have HB := Lib.hid hB
  clear hm0k hGk hLk hmo hB hm5k hmwj hgwj hzwj hwj hkW hW hwk ht hu hu2 hu3 hu0 HI5 HG5 HL Hm05
  have g0 : wk.cell? ⟨wa.heap.size, 0, none⟩ = some (.string gs) := cell_of HGk.out rfl
  have g1 : wk.cell? ⟨wa.heap.size, 1, none⟩ = some (.slice ga m.length gc) := cell_of HGk.out rfl
  go_wp2_with fail
  refine Hmo.out.mono ?_
  rintro e w6 ⟨rfl, hm6⟩
  have hm06 := Hm0k.out.trans hm6 (fun _ _ h => h)
  have hG6 := hm6.heap HGk.out (fun h => h)
  have hL6 := HLk.out.mod hm6
  have hro := rmay_observe t W (covB gs m) w6 (.slice oa L.length oc) L hL6 (by omega) (HLb.out t W) gs ga m.length gc (fun r hr wx hwx ho => rcovers_rule wx r ((hL6.ok r hr).mod hwx) (HLn.out r hr) ((Ru.right_is (HLr.out r hr)).2 (.inr (Ru.of_kind ho))) gs (.slice ga m.length gc) m (Hg.out.mod (hm06.trans hwx (fun _ _ h => h)) (fun _ _ h => h)) Hfr.out Hgs.out (fun d hd => (Hm.out d hd).2))
  rw [HB.out] at hro
  have Hm06 := Lib.hid hm06
  have HG6 := Lib.hid hG6
  have HL6 := Lib.hid hL6
  have Hro := Lib.hid hro
  clear hm06 hG6 hL6 hro hm6 HGk HLk Hmo Hm0k g0 g1
  have g0 : w6.cell? ⟨wa.heap.size, 0, none⟩ = some (.string gs) := cell_of HG6.out rfl
  have g1 : w6.cell? ⟨wa.heap.size, 1, none⟩ = some (.slice ga m.length gc) := cell_of HG6.out rfl
  go_wp2_with fail
  refine Hro.out.mono ?_
  rintro e w7 ⟨rfl, hm7⟩
  have hm07 := Hm06.out.trans hm7 (fun _ _ h => h)
  have hG7 := hm7.heap HG6.out (fun h => h)
  have hL7 := HL6.out.mod hm7
  have Hm07 := Lib.hid hm07
  have HG7 := Lib.hid hG7
  have HL7 := Lib.hid hL7
  clear hm07 hG7 hL7 hm7 HG6 HL6 Hro Hm06 g0 g1
  cases B with
  | false =>
    go_wp2
    go_ret
    exact ⟨rfl, Hm07.out⟩
  | true =>
  have hany : (L.any fun r => r.of 2 t W && covB gs m r) = true := by
    have := HB.out
    rw [Bool.and_eq_true] at this
    exact this.2
  have hLl' : (L.length : Int) ≤ 80 := by omega
  have Hany := Lib.hid hany
  clear hany HB
  go_wp2_with fail
  go_loopw [54] (fun i wr => ∃ j : Nat, i = .int .i64 j ∧ j ≤ L.length ∧ Mod (fun _ => False) w7 wr ∧ (∀ (k : Nat) (x : Ru), k < j → L[k]? = some x → (x.of 2 t W && covB gs m x) = false)) (fun i _ => L.length - (intOf i).toNat)
  case atStart => exact ⟨0, rfl, Nat.zero_le _, Mod.refl _ _, fun k x hk => by omega⟩
  case round =>
    obtain ⟨j, rfl, hj, hmr, hall⟩ := hrel
    by_cases hlt : j < L.length
    · have hlt' : (j : Int) < L.length := by omega
      obtain ⟨x, hxj⟩ : ∃ x, L[j]? = some x := ⟨_, List.getElem?_eq_getElem hlt⟩
      have hxm := List.mem_of_getElem? hxj
      have hm0r := Hm07.out.trans hmr (fun _ _ h => h)
      obtain ⟨g, off, rfl, hf⟩ : ∃ g off, oa = some ⟨g, off, none⟩ ∧ CellsAt wr g (off + j * 8) x.cells := rd_rule (HL7.out.mod hmr) hxj
      obtain ⟨wz, hwz⟩ : ∃ wz : World, wr.alloc (.cells x.cells.toArray 26) = wz := ⟨_, rfl⟩
      have hmwz : Mod (fun _ => False) wr wz := hwz ▸ (Mod.refl (fun _ => False) wr).alloc _
      have hgwz := heap_alloc_new wr (.cells x.cells.toArray 26)
      rw [hwz] at hgwz
      have hzwz : wz.heap.size = wr.heap.size + 1 := by rw [← hwz]; simp
      have hmz := hmr.trans hmwz (fun _ _ h => h)
      have hm0z := Hm07.out.trans hmz (fun _ _ h => h)
      have hGz := hmz.heap HG7.out (fun h => h)
      have g0 : wz.cell? ⟨wa.heap.size, 0, none⟩ = some (.string gs) := cell_of hGz rfl
      have g1 : wz.cell? ⟨wa.heap.size, 1, none⟩ = some (.slice ga m.length gc) := cell_of hGz rfl
      have c0 : wz.cell? ⟨wr.heap.size, 0, none⟩ = some (.int .i64 x.kind) := cell_of hgwz rfl
      have c1 : wz.cell? ⟨wr.heap.size, 1, none⟩ = some (.int .i64 x.tenant) := cell_of hgwz rfl
      have c2 : wz.cell? ⟨wr.heap.size, 2, none⟩ = some (.string x.who) := cell_of hgwz rfl
      have c3 : wz.cell? ⟨wr.heap.size, 3, none⟩ = some (.int .i64 x.broker) := cell_of hgwz rfl
      have c4 : wz.cell? ⟨wr.heap.size, 4, none⟩ = some (.string x.sc) := cell_of hgwz rfl
      have c5 : wz.cell? ⟨wr.heap.size, 5, none⟩ = some (.slice x.ca x.cs.length x.cc) := cell_of hgwz rfl
      have hcv : x.of 2 t W = true → Calls Try.prog 18 #[.agg #[.string x.sc, .slice x.ca x.cs.length x.cc], .agg #[.string gs, .slice ga m.length gc]] wz fun e w' => e = .returned (.bool (covB gs m x)) ∧ Mod (fun _ => False) wz w' :=
        fun ho => rcovers_rule wz x ((HL7.out.ok x hxm).mod hmz) (HLn.out x hxm) ((Ru.right_is (HLr.out x hxm)).2 (.inr (Ru.of_kind ho))) gs (.slice ga m.length gc) m (Hg.out.mod hm0z (fun _ _ h => h)) Hfr.out Hgs.out (fun d hd => (Hm.out d hd).2)
      obtain ⟨C, hC⟩ : ∃ C, covB gs m x = C := ⟨_, rfl⟩
      rw [hC] at hcv
      have hlz : wr.heap.size < wz.heap.size := by omega
      have Hmr := Lib.hid hmr
      have Hall := Lib.hid hall
      have Hxj := Lib.hid hxj
      have Hxm := Lib.hid hxm
      have Hf := Lib.hid hf
      have Hwz := Lib.hid hwz
      have Hmz := Lib.hid hmz
      have Hm0z := Lib.hid hm0z
      have Hcv := Lib.hid hcv
      have HC := Lib.hid hC
      clear hmr hall hxj hxm hf hwz hmz hm0z hcv hC hzwz hmwz hgwz hGz hm0r
      refine of_cases x 2 t W (fun h1 h4 => ?_) (fun h1 h2 h4 => ?_) (fun h1 h2 h3 h4 => ?_) (fun h1 h2 h3 h4 => ?_)
      iterate 3 (
        have Ho := Lib.hid h4
        clear h4 Hcv
        go_wp2_with (first | ((with_reducible refine wpList_load_lit 26 (.tmp 56) ?_); refine ⟨g, off + j * 8, rfl, x.cells, Hf.out, by kernel_rfl, by kernel_rfl, ?_⟩) | ((with_reducible refine wpList_store_lit 26 (.tmp 11) (.tmp 57) ?_); refine ⟨rfl, x.cells, rfl, rfl, by kernel_rfl, rfl, ?_⟩; rw [Hwz.out]) | fail)
        go_roundw
        case rel =>
          refine ⟨j + 1, by go_num, hlt, Hmz.out, fun k x' hk hx' => ?_⟩
          rcases Nat.lt_succ_iff_lt_or_eq.1 hk with hk | rfl
          · exact Hall.out k x' hk hx'
          · rw [Hxj.out] at hx'; cases hx'; rw [Ho.out]; rfl
        case measure => simp [intOf]; omega)
      have Ho := Lib.hid h4
      have Hcv := Lib.hid (Hcv.out h4)
      clear h4
      go_wp2_with (first | ((with_reducible refine wpList_load_lit 26 (.tmp 56) ?_); refine ⟨g, off + j * 8, rfl, x.cells, Hf.out, by kernel_rfl, by kernel_rfl, ?_⟩) | ((with_reducible refine wpList_store_lit 26 (.tmp 11) (.tmp 57) ?_); refine ⟨rfl, x.cells, rfl, rfl, by kernel_rfl, rfl, ?_⟩; rw [Hwz.out]) | fail)
      refine Hcv.out.mono ?_
      rintro e w8 ⟨rfl, hm8⟩
      have Hm8 := Lib.hid (Hmz.out.trans hm8 (fun _ _ h => h))
      clear hm8 g0 g1 c0 c1 c2 c3 c4 c5
      cases C with
      | true =>
        go_wp2
        go_ret
        exact ⟨rfl, Hm07.out.trans Hm8.out (fun _ _ h => h)⟩
      | false =>
        go_wp2_with fail
        go_roundw
        case rel =>
          refine ⟨j + 1, by go_num, hlt, Hm8.out, fun k x' hk hx' => ?_⟩
          rcases Nat.lt_succ_iff_lt_or_eq.1 hk with hk | rfl
          · exact Hall.out k x' hk hx'
          · rw [Hxj.out] at hx'; cases hx'; rw [Ho.out, HC.out]; rfl
        case measure => simp [intOf]; omega
    · obtain rfl : j = L.length := by omega
      exfalso
      have := Hany.out
      rw [List.any_eq_false.2 fun x hx => by
        obtain ⟨k, hk⟩ := List.mem_iff_getElem?.1 hx
        rw [hall k x (List.getElem?_eq_some_iff.1 hk).1 hk]
        decide] at this
      cases this
end Go.Proofs.Ytkhijaemajpnaaa
