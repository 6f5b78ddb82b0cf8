/-
  AclPublishes: who is there may publish what one of its rules matches, and nothing else.
-/
import Derived.Test.YtkhijaemajpnaaaPubm
namespace Go.Proofs.Ytkhijaemajpnaaa
open Go.RowKit

set_option maxRecDepth 20000 in
set_option maxHeartbeats 8000000 in
theorem publishes_walk (w : World) (v : Value) (l : List Ru) (hv : RuSl w v l) (hll : l.length ≤ 9223372036854775807) (x y : Int) (es : ByteArray) (av : Value) (q : List Att) (hq : RdSl w 6 av q.length (atts q)) (hql : q.length ≤ 9223372036854775807) (hes : es.size ≤ 9223372036854775807)
    (hqn : ∀ a ∈ q, a.name.size ≤ 9223372036854775807) :
    Calls Try.prog 6 #[v, .agg #[.int .i64 x, .int .i64 y], .agg #[.string es, av]] w fun e w' => e = .returned (.bool true) ∧ Mod (fun _ => False) w w' := by
  obtain ⟨qa, qc, rfl, hqc⟩ : ∃ a c, av = .slice a q.length c ∧ q.length ≤ c := by obtain ⟨-, a, c, h, h2, -⟩ := hq; exact ⟨a, c, h, h2⟩
  have hes' : (es.size : Int) ≤ 9223372036854775807 := by omega
  have hql' : (q.length : Int) ≤ 9223372036854775807 := by omega
  obtain ⟨wa, hwa⟩ : ∃ wa : World, w.alloc (.cells #[.int .i64 x, .int .i64 y] 33) = wa := ⟨_, rfl⟩
  have hmwa : Mod (fun _ => False) w wa := hwa ▸ (Mod.refl (fun _ => False) w).alloc _
  have hgwa := heap_alloc_new w (.cells #[.int .i64 x, .int .i64 y] 33)
  rw [hwa] at hgwa
  have hzwa : wa.heap.size = w.heap.size + 1 := by rw [← hwa]; simp
  obtain ⟨wb, hwb⟩ : ∃ wb : World, wa.alloc (.cells #[.string es, .slice qa q.length qc] 42) = wb := ⟨_, rfl⟩
  have hmwb : Mod (fun _ => False) wa wb := hwb ▸ (Mod.refl (fun _ => False) wa).alloc _
  have hgwb := heap_alloc_new wa (.cells #[.string es, .slice qa q.length qc] 42)
  rw [hwb] at hgwb
  have hzwb : wb.heap.size = wa.heap.size + 1 := by rw [← hwb]; simp
  have hmb := hmwa.trans hmwb (fun _ _ h => h)
  have hI := hmwb.heap hgwa (fun h => h)
  have hft := fit10_at wb
  have hlz : w.heap.size < wa.heap.size := by omega
  have hlz2 : w.heap.size < w.heap.size + 1 := by omega
  have Hwa := Lib.hid hwa
  have Hwb := Lib.hid hwb
  have Hmb := Lib.hid hmb
  have HI := Lib.hid hI
  have Hgwb := Lib.hid hgwb
  have Hft := Lib.hid hft
  have Hv := Lib.hid hv
  have Hq := Lib.hid hq
  have Hqn := Lib.hid hqn
  have Hll := Lib.hid hll
  have Hql := Lib.hid hql
  have Hes := Lib.hid hes
  clear hwa hwb hmb hI hgwb hft hv hq hqn hll hql hes hmwa hmwb hgwa hzwa hzwb
  go_enter Try.func6, Try.ntmps6
  go_wp2_with (first | (rw [show w.alloc _ = wa from Hwa.out]) | (rw [show wa.alloc _ = wb from Hwb.out]) | fail)
  refine Hft.out.mono ?_
  rintro e w1 ⟨rfl, hm1⟩
  have hm01 := Hmb.out.trans hm1 (fun _ _ h => h)
  have hI1 := hm1.heap HI.out (fun h => h)
  have hG1 := hm1.heap Hgwb.out (fun h => h)
  have hli := light10_at w1 v l (Hv.out.mod hm01) Hll.out
  have Hm01 := Lib.hid hm01
  have HI1 := Lib.hid hI1
  have HG1 := Lib.hid hG1
  have Hli := Lib.hid hli
  clear hm01 hI1 hG1 hli hm1 Hft HI Hgwb Hmb
  go_wp2_with fail
  refine Hli.out.mono ?_
  rintro e w2 ⟨b, rfl, hb, hm2⟩
  have hm02 := Hm01.out.trans hm2 (fun _ _ h => h)
  have hI2 := hm2.heap HI1.out (fun h => h)
  have hG2 := hm2.heap HG1.out (fun h => h)
  cases b with
  | false =>
    have Hm02 := Lib.hid hm02
    clear hm02 hm2 hI2 hG2 hb
    go_wp2
    go_ret
    exact ⟨rfl, Hm02.out⟩
  | true =>
  have hl80 := hb rfl
  have Hm02 := Lib.hid hm02
  have HI2 := Lib.hid hI2
  have HG2 := Lib.hid hG2
  clear hm02 hI2 hG2 hm2 hb HI1 HG1 Hli Hm01
  have g0 : w2.cell? ⟨wa.heap.size, 0, none⟩ = some (.string es) := cell_of HG2.out rfl
  have g1 : w2.cell? ⟨wa.heap.size, 1, none⟩ = some (.slice qa q.length qc) := cell_of HG2.out rfl
  by_cases hs60 : es.size ≤ 60
  rotate_left
  · have hs60' : (60 : Int) < es.size := by omega
    go_wp2
    go_ret
    exact ⟨rfl, Hm02.out⟩
  have hs60' : (es.size : Int) ≤ 60 := by omega
  by_cases hq20 : q.length ≤ 20
  rotate_left
  · have hq20' : (20 : Int) < q.length := by omega
    go_wp2
    go_ret
    exact ⟨rfl, Hm02.out⟩
  have hq20' : (q.length : Int) ≤ 20 := by omega
  have hri := rights_at w2 v l (Hv.out.mod Hm02.out) (by omega)
  have Hri := Lib.hid hri
  clear hri
  go_wp2_with fail
  refine Hri.out.mono ?_
  rintro e w5 ⟨ov, rfl, hown, hfrL, hm5⟩
  have hwa2 := (Array.getElem?_eq_some_iff.1 HG2.out).1
  have hm05 := Hm02.out.trans hm5 (fun _ _ h => h)
  have hI5 := hm5.heap HI2.out (fun h => h)
  have hG5 := hm5.heap HG2.out (fun h => h)
  have hL := rights_sl Hv.out hown hm05
  have hLb : ∀ t who, ∀ r ∈ l.filter Ru.rightB, r.of 0 t who = true → 0 ≤ r.broker := fun t who => rights_broker
  have hLr : ∀ r ∈ l.filter Ru.rightB, r.rightB = true := fun r hr => (List.mem_filter.1 hr).2
  have hLl : (l.filter Ru.rightB).length ≤ 80 := Nat.le_trans (List.length_filter_le _ _) hl80
  obtain ⟨L, hLL⟩ : ∃ L, l.filter Ru.rightB = L := ⟨_, rfl⟩
  have HLL := Lib.hid hLL
  rw [hLL] at hown hL hLb hLr hLl
  obtain ⟨oa, oc, rfl, -⟩ := hown.shape
  have hnL : ∀ b, (Value.slice oa L.length oc).ownBlock = some b → b ≠ wa.heap.size := fun b hb => by have := hfrL b hb; omega
  have HownL := Lib.hid hown
  have hev := ev7_at w5 es (.slice qa q.length qc) q (Hq.out.mod hm05 (fun _ _ h => h)) (by omega) Hes.out (newL_mem q fun a ha => Hqn.out a ha)
  have Hm05 := Lib.hid hm05
  have HI5 := Lib.hid hI5
  have HG5 := Lib.hid hG5
  have HL := Lib.hid hL
  have HLb := Lib.hid hLb
  have HLr := Lib.hid hLr
  have Hev := Lib.hid hev
  have HnL := Lib.hid hnL
  clear hm05 hI5 hG5 hL hLb hLr hev hnL hm5 hown hfrL hwa2 hLL HI2 HG2 Hri Hm02 hl80 g0 g1
  have g0 : w5.cell? ⟨wa.heap.size, 0, none⟩ = some (.string es) := cell_of HG5.out rfl
  have g1 : w5.cell? ⟨wa.heap.size, 1, none⟩ = some (.slice qa q.length qc) := cell_of HG5.out rfl
  go_wp2_with fail
  refine Hev.out.mono ?_
  rintro e w6 ⟨ev, rfl, hown, hfr, hm6⟩
  have hm06 := Hm05.out.trans hm6 (fun _ _ h => h)
  have hI6 := hm6.heap HI5.out (fun h => h)
  have hG6 := hm6.heap HG5.out (fun h => h)
  have hownL6 := HownL.out.mod hm6 (fun _ _ h => h)
  obtain ⟨ea, ec, rfl, -⟩ := hown.shape
  have hmr := fun (wx : World) (r : Ru) (hr : r.ok wx) (hv : RdSl wx 6 (.slice ea (ev7L q).length ec) (ev7L q).length (atts (ev7L q))) => match_rule wx r hr es hs60 (.slice ea (ev7L q).length ec) q hv
  have hrr := fun (wx : World) (r : Ru) (hr : r.ok wx) (hf : filRight r.sc r.cs = true) (hv : RdSl wx 6 (.slice ea (ev7L q).length ec) (ev7L q).length (atts (ev7L q))) => rmatch_rule wx r hr hf es hs60 (.slice ea (ev7L q).length ec) q hv
  obtain ⟨E, hE⟩ : ∃ E, ev7S es = E := ⟨_, rfl⟩
  obtain ⟨Q, hQ⟩ : ∃ Q, ev7L q = Q := ⟨_, rfl⟩
  rw [hQ] at hown hfr
  simp only [hE, hQ] at hmr hrr
  rw [hE, hQ]
  obtain ⟨t, ht, ht2⟩ := and1 x
  obtain ⟨u, hu, hu2⟩ := and3 y
  have hu3 : (u : Int) < 4 := by omega
  have hu0 : (0 : Int) ≤ u := by omega
  obtain ⟨W, hW, -⟩ := who_at hu2
  have hn6 : ∀ b, (Value.slice ea Q.length ec).ownBlock = some b → b ≠ wa.heap.size := fun b hb => by
    have := hfr b hb
    have := (Array.getElem?_eq_some_iff.1 HG5.out).1
    omega
  have hz0 := Hm05.out.size
  have Hm06 := Lib.hid hm06
  have HI6 := Lib.hid hI6
  have HG6 := Lib.hid hG6
  have HownL6 := Lib.hid hownL6
  have Hown := Lib.hid hown
  have Hmr := Lib.hid hmr
  have Hrr := Lib.hid hrr
  have Hn6 := Lib.hid hn6
  clear hm06 hI6 hG6 hownL6 hown hmr hrr hn6 hm6 hE hQ HI5 HG5 HL Hev Hm05 hfr g0 g1
  go_wp2_with (first | ((with_reducible refine wpList_store_row_lit 42 (.tmp 5) (.tmp 35) ?_); refine ⟨wa.heap.size, rfl, _, _, HG6.out, [.string E, .slice ea Q.length ec], rfl, rfl, by kernel_rfl, rfl, ?_⟩; intro w7 hg7 hm7; have Hg7 := Lib.hid hg7; have Hm7 := Lib.hid hm7; clear hg7 hm7) | fail)
  have hm07 : Mod (fun _ => False) w w7 := Hm06.out.upon Hm7.out (fun b hb => .inr (by omega))
  have hownL7 := HownL6.out.mod Hm7.out HnL.out
  rw [← HLL.out] at hownL7
  have hL7 := rights_sl Hv.out hownL7 hm07
  rw [HLL.out] at hL7
  have hI7 := Hm7.out.heap HI6.out (by omega)
  have hown7 := Hown.out.mod Hm7.out Hn6.out
  have Hm07 := Lib.hid hm07
  have HL7 := Lib.hid hL7
  have HI7 := Lib.hid hI7
  have Hown7 := Lib.hid hown7
  clear hm07 hL7 hI7 hown7 hownL7 HI6 HG6 Hown Hm06 HownL HownL6
  refine wp_region_news2 [.rd 0, .rd 1, .rd 2, .rd 9, .rd 4, .rd 5, .rd 6, .go 3, .rd 7, .rd 8, .rd 10] [0, 1, 2, 3, 4, 5, 6, 7, 8, 9, 10] (by kernel_rfl) (by kernel_rfl) (fun _ _ d _ _ h => (by cases d <;> exact h)) ?_
  refine news_pure rfl ?_ ?_ (fun w0 => ?_) (fun K hK => ?_)
  · (try simp only [List.getElem_toArray]); (try simp only [List.getElem_cons_succ]); (try simp only [List.getElem_cons_zero])
    go_simp; done
  rotate_left
  · (try simp only [List.getElem_toArray]); (try simp only [List.getElem_cons_succ]); (try simp only [List.getElem_cons_zero])
    go_simp; with_reducible rfl
  (try simp only [List.getElem_toArray]); (try simp only [List.getElem_cons_succ]); (try simp only [List.getElem_cons_zero])
  go_simp; refine hK _ ?_; clear hK K
  refine news_rd rfl rfl ?_ ((fun y : World => y.cell? ⟨w.heap.size, 0, none⟩ = some (.int .i64 x))) ((fun _ _ m h => m.cell h (fun h => h))) ((cell_of HI7.out rfl)) ?_ (fun w0 h0 => ?_) (fun K hK => ?_)
  · (try simp only [List.getElem_toArray]); (try simp only [List.getElem_cons_succ]); (try simp only [List.getElem_cons_zero])
    go_simp; done
  rotate_left
  · (try simp only [List.getElem_toArray]); (try simp only [List.getElem_cons_succ]); (try simp only [List.getElem_cons_zero])
    go_simp; with_reducible rfl
  (try simp only [List.getElem_toArray]); (try simp only [List.getElem_cons_succ]); (try simp only [List.getElem_cons_zero])
  go_simp; refine hK _ ?_; clear hK K
  refine news_pure rfl ?_ ?_ (fun w0 => ?_) (fun K hK => ?_)
  · (try simp only [List.getElem_toArray]); (try simp only [List.getElem_cons_succ]); (try simp only [List.getElem_cons_zero])
    go_simp; done
  rotate_left
  · (try simp only [List.getElem_toArray]); (try simp only [List.getElem_cons_succ]); (try simp only [List.getElem_cons_zero])
    go_simp; with_reducible rfl
  (try simp only [List.getElem_toArray]); (try simp only [List.getElem_cons_succ]); (try simp only [List.getElem_cons_zero])
  go_simp; refine hK _ ?_; clear hK K
  refine news_pure rfl ?_ ?_ (fun w0 => ?_) (fun K hK => ?_)
  · (try simp only [List.getElem_toArray]); (try simp only [List.getElem_cons_succ]); (try simp only [List.getElem_cons_zero])
    go_simp; done
  rotate_left
  · (try simp only [List.getElem_toArray]); (try simp only [List.getElem_cons_succ]); (try simp only [List.getElem_cons_zero])
    go_simp; with_reducible rfl
  (try simp only [List.getElem_toArray]); (try simp only [List.getElem_cons_succ]); (try simp only [List.getElem_cons_zero])
  go_simp; refine hK _ ?_; clear hK K
  refine news_pure rfl ?_ ?_ (fun w0 => ?_) (fun K hK => ?_)
  · (try simp only [List.getElem_toArray]); (try simp only [List.getElem_cons_succ]); (try simp only [List.getElem_cons_zero])
    go_simp; done
  rotate_left
  · (try simp only [List.getElem_toArray]); (try simp only [List.getElem_cons_succ]); (try simp only [List.getElem_cons_zero])
    go_simp; with_reducible rfl
  (try simp only [List.getElem_toArray]); (try simp only [List.getElem_cons_succ]); (try simp only [List.getElem_cons_zero])
  go_simp; refine hK _ ?_; clear hK K
  refine news_rd rfl rfl ?_ ((fun z : World => z.cell? ⟨w.heap.size, 1, none⟩ = some (.int .i64 y))) ((fun _ _ m h => m.cell h (fun h => h))) ((cell_of HI7.out rfl)) ?_ (fun w0 h0 => ?_) (fun K hK => ?_)
  · (try simp only [List.getElem_toArray]); (try simp only [List.getElem_cons_succ]); (try simp only [List.getElem_cons_zero])
    go_simp; done
  rotate_left
  · (try simp only [List.getElem_toArray]); (try simp only [List.getElem_cons_succ]); (try simp only [List.getElem_cons_zero])
    go_simp; with_reducible rfl
  (try simp only [List.getElem_toArray]); (try simp only [List.getElem_cons_succ]); (try simp only [List.getElem_cons_zero])
  go_simp; refine hK _ ?_; clear hK K
  refine news_pure rfl ?_ ?_ (fun w0 => ?_) (fun K hK => ?_)
  · (try simp only [List.getElem_toArray]); (try simp only [List.getElem_cons_succ]); (try simp only [List.getElem_cons_zero])
    go_simp; done
  rotate_left
  · (try simp only [List.getElem_toArray]); (try simp only [List.getElem_cons_succ]); (try simp only [List.getElem_cons_zero])
    go_simp; with_reducible rfl
  (try simp only [List.getElem_toArray]); (try simp only [List.getElem_cons_succ]); (try simp only [List.getElem_cons_zero])
  go_simp; refine hK _ ?_; clear hK K
  refine news_one (newsgo_yes rfl ?_ (fun K hK => ?_))
  · (try simp only [List.getElem_toArray]); (try simp only [List.getElem_cons_succ]); (try simp only [List.getElem_cons_zero])
    go_simp; done
  obtain ⟨wj, hwj⟩ : ∃ wj : World, w7.alloc (.cells #[.string ⟨#[97]⟩, .string ⟨#[98]⟩, .string ⟨#[99]⟩, .string ⟨#[100]⟩] 9) = wj := ⟨_, rfl⟩
  have hmwj : Mod (fun _ => False) w7 wj := hwj ▸ (Mod.refl (fun _ => False) w7).alloc _
  have hgwj := heap_alloc_new w7 (.cells #[.string ⟨#[97]⟩, .string ⟨#[98]⟩, .string ⟨#[99]⟩, .string ⟨#[100]⟩] 9)
  rw [hwj] at hgwj
  have hzwj : wj.heap.size = w7.heap.size + 1 := by rw [← hwj]; simp
  go_simp
  refine hK _ _ (fun _ => ⟨hmwj.os, hmwj.tape, hmwj.output, hmwj.size, hmwj.block⟩) ?_
  clear hK K
  obtain ⟨wk, hwk⟩ : ∃ wk, wj.drew = wk := ⟨_, rfl⟩
  have hm7k : Mod (fun _ => False) w7 wk := hwk ▸ hmwj.drew
  have hkW : wk.cell? ⟨w7.heap.size, u, none⟩ = some (.string W) := hwk ▸ (cell_of_row wj w7.heap.size u _ _ _ hgwj).trans hW
  rw [hwk]
  refine news_pure rfl ?_ ?_ (fun w0 => ?_) (fun K hK => ?_)
  · (try simp only [List.getElem_toArray]); (try simp only [List.getElem_cons_succ]); (try simp only [List.getElem_cons_zero])
    go_simp; done
  rotate_left
  · (try simp only [List.getElem_toArray]); (try simp only [List.getElem_cons_succ]); (try simp only [List.getElem_cons_zero])
    go_simp; with_reducible rfl
  (try simp only [List.getElem_toArray]); (try simp only [List.getElem_cons_succ]); (try simp only [List.getElem_cons_zero])
  go_simp; refine hK _ ?_; clear hK K
  refine news_rd rfl rfl ?_ ((fun z : World => z.cell? ⟨w7.heap.size, u, none⟩ = some (.string W))) ((fun _ _ m h => m.cell h (fun h => h))) (hkW) ?_ (fun w0 h0 => ?_) (fun K hK => ?_)
  · (try simp only [List.getElem_toArray]); (try simp only [List.getElem_cons_succ]); (try simp only [List.getElem_cons_zero])
    go_simp; done
  rotate_left
  · (try simp only [List.getElem_toArray]); (try simp only [List.getElem_cons_succ]); (try simp only [List.getElem_cons_zero])
    go_simp; with_reducible rfl
  (try simp only [List.getElem_toArray]); (try simp only [List.getElem_cons_succ]); (try simp only [List.getElem_cons_zero])
  go_simp; refine hK _ ?_; clear hK K
  refine news_pure rfl ?_ ?_ (fun w0 => ?_) (fun K hK => ?_)
  · (try simp only [List.getElem_toArray]); (try simp only [List.getElem_cons_succ]); (try simp only [List.getElem_cons_zero])
    go_simp; done
  rotate_left
  · (try simp only [List.getElem_toArray]); (try simp only [List.getElem_cons_succ]); (try simp only [List.getElem_cons_zero])
    go_simp; with_reducible rfl
  (try simp only [List.getElem_toArray]); (try simp only [List.getElem_cons_succ]); (try simp only [List.getElem_cons_zero])
  go_simp; refine hK _ ?_; clear hK K
  refine news_nil ?_
  have hm0k := Hm07.out.trans hm7k (fun _ _ h => h)
  have hGk := hm7k.heap Hg7.out (fun h => h)
  have hLk := HL7.out.mod hm7k
  have hek := Hown7.out.mod hm7k (fun _ _ h => h)
  have hho := home_at wk (.slice oa L.length oc) L hLk (by omega) t W
  have Hm0k := Lib.hid hm0k
  have HGk := Lib.hid hGk
  have HLk := Lib.hid hLk
  have Hek := Lib.hid hek
  have Hho := Lib.hid hho
  clear hm0k hGk hLk hek hho hm7k hmwj hgwj hzwj hwj hkW hW hwk ht hu hu2 hu3 hu0 HI7 Hg7 HL7 Hown7 Hm07
  go_wp2_with fail
  refine Hho.out.mono ?_
  rintro e w8 ⟨rfl, hm8⟩
  have hm08 := Hm0k.out.trans hm8 (fun _ _ h => h)
  have hG8 := hm8.heap HGk.out (fun h => h)
  have hL8 := HLk.out.mod hm8
  have he8 := Hek.out.mod hm8 (fun _ _ h => h)
  have hrh := rhome_at w8 (.slice oa L.length oc) L hL8 (by omega) t W
  have Hm08 := Lib.hid hm08
  have HG8 := Lib.hid hG8
  have HL8 := Lib.hid hL8
  have He8 := Lib.hid he8
  have Hrh := Lib.hid hrh
  clear hm08 hG8 hL8 he8 hrh hm8 HGk HLk Hek Hho Hm0k
  go_wp2_with fail
  refine Hrh.out.mono ?_
  rintro e w9 ⟨rfl, hm9⟩
  have hm09 := Hm08.out.trans hm9 (fun _ _ h => h)
  have hG9 := hm9.heap HG8.out (fun h => h)
  have hL9 := HL8.out.mod hm9
  have he9 := He8.out.mod hm9 (fun _ _ h => h)
  have hp1 : ∀ w', Mod (fun _ => False) w9 w' → Calls Try.prog 19 #[.slice oa L.length oc, .int .i64 t, .string W, .agg #[.string E, .slice ea Q.length ec]] w' fun e w'' => e = .returned (.bool ((homeOf L t W).isSome && L.any fun r => r.of 1 t W && filMatch r.sc r.cs E Q)) ∧ Mod (fun _ => False) w9 w'' := fun w' hw' =>
    (may_publish (fun r => filMatch r.sc r.cs E Q) w' (.slice oa L.length oc) L (hL9.mod hw') (by omega) t W E ea Q.length ec (fun r hr wx hwx => Hmr.out wx r (((hL9.mod hw').ok r hr).mod hwx) ((he9.mod hw' (fun _ _ h => h)).mod hwx (fun _ _ h => h)).rd)).mono fun e w'' h => ⟨h.1, hw'.trans h.2 (fun _ _ h => h)⟩
  have hp2 : ∀ w', Mod (fun _ => False) w9 w' → Calls Try.prog 23 #[.slice oa L.length oc, .int .i64 t, .string W, .agg #[.string E, .slice ea Q.length ec]] w' fun e w'' => e = .returned (.bool ((homeOf L t W).isSome && L.any fun r => r.of 1 t W && filMatch r.sc r.cs E Q)) ∧ Mod (fun _ => False) w9 w'' := fun w' hw' =>
    (rmay_publish t W (fun r => filMatch r.sc r.cs E Q) w' (.slice oa L.length oc) L (hL9.mod hw') (by omega) (HLb.out t W) E ea Q.length ec (fun r hr wx hwx ho => Hrr.out wx r (((hL9.mod hw').ok r hr).mod hwx) ((Ru.right_is (HLr.out r hr)).2 (.inl (Ru.of_kind ho))) ((he9.mod hw' (fun _ _ h => h)).mod hwx (fun _ _ h => h)).rd)).mono fun e w'' h => ⟨h.1, hw'.trans h.2 (fun _ _ h => h)⟩
  have hf : ∀ w', Mod (fun _ => False) w9 w' → w'.cell? ⟨wa.heap.size, 0, none⟩ = some (.string E) ∧ w'.cell? ⟨wa.heap.size, 1, none⟩ = some (.slice ea Q.length ec) := fun w' hw' =>
    ⟨cell_of (hw'.heap hG9 (fun h => h)) rfl, cell_of (hw'.heap hG9 (fun h => h)) rfl⟩
  have hbr : ∀ b, homeOf L t W = some b → 0 ≤ b := fun b hb => by
    unfold homeOf at hb
    cases hfi : L.reverse.find? (fun r => r.of 0 t W) with
    | none => rw [hfi] at hb; cases hb
    | some r =>
      rw [hfi] at hb
      cases hb
      exact HLb.out t W r (List.mem_reverse.1 (List.mem_of_find?_eq_some hfi)) (List.find?_some (p := fun r : Ru => r.of 0 t W) hfi)
  obtain ⟨B, hB⟩ : ∃ B, ((homeOf L t W).isSome && L.any fun r => r.of 1 t W && filMatch r.sc r.cs E Q) = B := ⟨_, rfl⟩
  rw [hB] at hp1 hp2
  have hBB : (B == B) = true := by cases B <;> rfl
  have Hm09 := Lib.hid hm09
  have Hp1 := Lib.hid hp1
  have Hp2 := Lib.hid hp2
  have Hf := Lib.hid hf
  clear hm09 hp1 hp2 hf hm9 HG8 HL8 He8 Hrh Hm08 hG9 hL9 he9 hB
  cases hh : homeOf L t W with
  | none =>
    clear hh hbr
    go_wp2_with fail
    refine wp_region_news (by kernel_rfl) (by kernel_rfl) ?_
    iterate 34 (first
      | (refine quiet_skip ?_ (fun K hK => ?_)
         · first | (go_simp; done) | (go_simp; simp [undef]; done)
         go_simp; refine hK _ ?_; clear hK K)
      | (refine quiet_do ?_ ?_ (fun w' hw' => ?_) (fun K hK => ?_)
         · first | (go_simp; done) | (go_simp; simp [undef]; done)
         rotate_left
         · obtain ⟨f1, f2⟩ := Hf.out w' hw'
           go_simp
           rfl
         go_simp; refine hK _ ?_; clear hK K)
      | (refine quiet_in ?_ ?_ ?_ ?_ (fun w' hw' => ?_) ?_ (fun K hK => ?_)
         · first | (go_simp; done) | (go_simp; simp [undef]; done)
         rotate_left 3
         · obtain ⟨f1, f2⟩ := Hf.out w' hw'
           go_simp
           constructor <;> rfl
         · first | with_reducible exact Hp1.out | with_reducible exact Hp2.out
         go_simp; refine hK _ ?_; clear hK K))
    refine quiet_end (fun w' hw' => ?_)
    have Hw' := Lib.hid (Hm09.out.trans hw' (fun _ _ h => h))
    clear hw'
    go_wp2
    go_ret
    exact ⟨rfl, Hw'.out⟩
  | some h0 =>
    have hh0 := hbr h0 hh
    have hd1 : decide (0 ≤ h0) = true := decide_eq_true hh0
    have hd2 : (h0 == h0) = true := beq_self_eq_true _
    clear hh hbr
    go_wp2_with fail
    refine wp_region_news (by kernel_rfl) (by kernel_rfl) ?_
    iterate 34 (first
      | (refine quiet_skip ?_ (fun K hK => ?_)
         · first | (go_simp; done) | (go_simp; simp [undef]; done)
         go_simp; refine hK _ ?_; clear hK K)
      | (refine quiet_do ?_ ?_ (fun w' hw' => ?_) (fun K hK => ?_)
         · first | (go_simp; done) | (go_simp; simp [undef]; done)
         rotate_left
         · obtain ⟨f1, f2⟩ := Hf.out w' hw'
           go_simp
           rfl
         go_simp; refine hK _ ?_; clear hK K)
      | (refine quiet_in ?_ ?_ ?_ ?_ (fun w' hw' => ?_) ?_ (fun K hK => ?_)
         · first | (go_simp; done) | (go_simp; simp [undef]; done)
         rotate_left 3
         · obtain ⟨f1, f2⟩ := Hf.out w' hw'
           go_simp
           constructor <;> rfl
         · first | with_reducible exact Hp1.out | with_reducible exact Hp2.out
         go_simp; refine hK _ ?_; clear hK K))
    refine quiet_end (fun w' hw' => ?_)
    have Hw' := Lib.hid (Hm09.out.trans hw' (fun _ _ h => h))
    clear hw'
    go_wp2
    go_ret
    exact ⟨rfl, Hw'.out⟩
end Go.Proofs.Ytkhijaemajpnaaa
