/-
  AclApart: rules of one principal, or tenant, play no part for another one.
-/
import Derived.Test.YtkhijaemajpnaaaPubm
namespace Go.Proofs.Ytkhijaemajpnaaa
open Go.RowKit

/-- Is it a rule of that principal, and no Revoke? -/
def ownP (t : Int) (W : ByteArray) (r : Ru) : Bool := r.tenant == t && (r.who.toList == W.toList && r.kind != 4)
theorem own_cases {t : Int} {W : ByteArray} {r : Ru} {p : Prop} (h : ownP t W r = false) (h1 : (r.tenant == t) = false → p) (h2 : (r.tenant == t) = true → (r.who.toList == W.toList) = false → p) (h3 : (r.tenant == t) = true → (r.who.toList == W.toList) = true → (r.kind != 4) = false → p) : p := by
  unfold ownP at h
  cases a1 : r.tenant == t
  · exact h1 a1
  cases a2 : r.who.toList == W.toList
  · exact h2 a1 a2
  · rw [a1, a2] at h
    exact h3 a1 a2 h
theorem own_yes {t : Int} {W : ByteArray} {r : Ru} (h : ownP t W r = true) : (r.tenant == t) = true ∧ (r.who.toList == W.toList) = true ∧ (r.kind != 4) = true := by
  unfold ownP at h
  rw [Bool.and_eq_true, Bool.and_eq_true] at h
  exact h
theorem of_own {t : Int} {W : ByteArray} {r : Ru} {k : Int} (hk : k ≠ 4) (h : r.of k t W = true) : ownP t W r = true := by
  unfold Ru.of at h
  rw [Bool.and_eq_true, Bool.and_eq_true] at h
  unfold ownP
  rw [h.2.1, h.2.2]
  have := h.1
  rw [beq_iff_eq] at this
  simp [this, hk]
theorem home_own (L : List Ru) (t : Int) (W : ByteArray) : homeOf (L.filter (ownP t W)) t W = homeOf L t W := by
  unfold homeOf
  rw [← List.filter_reverse, List.find?_filter]
  congr 2
  funext r
  cases h : r.of 0 t W with
  | false => simp
  | true => simp [of_own (by decide) h]
theorem any_own (L : List Ru) (t : Int) (W : ByteArray) (k : Int) (hk : k ≠ 4) (p : Ru → Bool) : ((L.filter (ownP t W)).any fun r => r.of k t W && p r) = L.any fun r => r.of k t W && p r := by
  rw [List.any_filter]
  congr 1
  funext r
  cases h : r.of k t W with
  | false => simp
  | true => simp [of_own hk h]

set_option maxRecDepth 20000 in
set_option maxHeartbeats 8000000 in
theorem apart_walk (w : World) (v : Value) (l : List Ru) (hv : RuSl w v l) (hll : l.length ≤ 9223372036854775807) (hn : RuNum l) (x y : Int) (es : ByteArray) (av : Value) (q : List Att) (hq : RdSl w 6 av q.length (atts q)) (hql : q.length ≤ 9223372036854775807) (hes : es.size ≤ 9223372036854775807)
    (hqn : ∀ a ∈ q, a.name.size ≤ 9223372036854775807) :
    Calls Try.prog 7 #[v, .agg #[.int .i64 x, .int .i64 y], .agg #[.string es, av]] w fun e w' => e = .returned (.bool true) ∧ Mod (fun _ => False) w w' := by
  obtain ⟨qa, qc, rfl, hqc⟩ : ∃ a c, av = .slice a q.length c ∧ q.length ≤ c := by obtain ⟨-, a, c, h, h2, -⟩ := hq; exact ⟨a, c, h, h2⟩
  have hes' : (es.size : Int) ≤ 9223372036854775807 := by omega
  have hql' : (q.length : Int) ≤ 9223372036854775807 := by omega
  obtain ⟨wa, hwa⟩ : ∃ wa : World, w.alloc (.cells #[.int .i64 x, .int .i64 y] 33) = wa := ⟨_, rfl⟩
  have hmwa : Mod (fun _ => False) w wa := hwa ▸ (Mod.refl (fun _ => False) w).alloc _
  have hgwa := heap_alloc_new w (.cells #[.int .i64 x, .int .i64 y] 33)
  rw [hwa] at hgwa
  have hzwa : wa.heap.size = w.heap.size + 1 := by rw [← hwa]; simp
  obtain ⟨wb, hwb⟩ : ∃ wb : World, wa.alloc (.cells #[.string es, .slice qa q.length qc] 42) = wb := ⟨_, rfl⟩
  have hmwb : Mod (fun _ => False) wa wb := hwb ▸ (Mod.refl (fun _ => False) wa).alloc _
  have hgwb := heap_alloc_new wa (.cells #[.string es, .slice qa q.length qc] 42)
  rw [hwb] at hgwb
  have hzwb : wb.heap.size = wa.heap.size + 1 := by rw [← hwb]; simp
  have hmb := hmwa.trans hmwb (fun _ _ h => h)
  have hI := hmwb.heap hgwa (fun h => h)
  have hft := fit10_at wb
  have hlz : w.heap.size < wa.heap.size := by omega
  have hlz2 : w.heap.size < w.heap.size + 1 := by omega
  have Hwa := Lib.hid hwa
  have Hwb := Lib.hid hwb
  have Hmb := Lib.hid hmb
  have HI := Lib.hid hI
  have Hgwb := Lib.hid hgwb
  have Hft := Lib.hid hft
  have Hv := Lib.hid hv
  have Hn := Lib.hid hn
  have Hq := Lib.hid hq
  have Hqn := Lib.hid hqn
  have Hll := Lib.hid hll
  have Hql := Lib.hid hql
  have Hes := Lib.hid hes
  clear hwa hwb hmb hI hgwb hft hv hn hq hqn hll hql hes hmwa hmwb hgwa hzwa hzwb
  go_enter Try.func7, Try.ntmps7
  go_wp2_with (first | (rw [show w.alloc _ = wa from Hwa.out]) | (rw [show wa.alloc _ = wb from Hwb.out]) | fail)
  refine Hft.out.mono ?_
  rintro e w1 ⟨rfl, hm1⟩
  have hm01 := Hmb.out.trans hm1 (fun _ _ h => h)
  have hI1 := hm1.heap HI.out (fun h => h)
  have hG1 := hm1.heap Hgwb.out (fun h => h)
  have hli := light10_at w1 v l (Hv.out.mod hm01) Hll.out
  have Hm01 := Lib.hid hm01
  have HI1 := Lib.hid hI1
  have HG1 := Lib.hid hG1
  have Hli := Lib.hid hli
  clear hm01 hI1 hG1 hli hm1 Hft HI Hgwb Hmb
  go_wp2_with fail
  refine Hli.out.mono ?_
  rintro e w2 ⟨b, rfl, hb, hm2⟩
  have hm02 := Hm01.out.trans hm2 (fun _ _ h => h)
  have hI2 := hm2.heap HI1.out (fun h => h)
  have hG2 := hm2.heap HG1.out (fun h => h)
  cases b with
  | false =>
    have Hm02 := Lib.hid hm02
    clear hm02 hm2 hI2 hG2 hb
    go_wp2
    go_ret
    exact ⟨rfl, Hm02.out⟩
  | true =>
  have hl80 := hb rfl
  have Hm02 := Lib.hid hm02
  have HI2 := Lib.hid hI2
  have HG2 := Lib.hid hG2
  clear hm02 hI2 hG2 hm2 hb HI1 HG1 Hli Hm01
  have g0 : w2.cell? ⟨wa.heap.size, 0, none⟩ = some (.string es) := cell_of HG2.out rfl
  have g1 : w2.cell? ⟨wa.heap.size, 1, none⟩ = some (.slice qa q.length qc) := cell_of HG2.out rfl
  by_cases hs60 : es.size ≤ 60
  rotate_left
  · have hs60' : (60 : Int) < es.size := by omega
    go_wp2
    go_ret
    exact ⟨rfl, Hm02.out⟩
  have hs60' : (es.size : Int) ≤ 60 := by omega
  by_cases hq20 : q.length ≤ 20
  rotate_left
  · have hq20' : (20 : Int) < q.length := by omega
    go_wp2
    go_ret
    exact ⟨rfl, Hm02.out⟩
  have hq20' : (q.length : Int) ≤ 20 := by omega
  have hri := rights_at w2 v l (Hv.out.mod Hm02.out) (by omega)
  have Hri := Lib.hid hri
  clear hri
  go_wp2_with fail
  refine Hri.out.mono ?_
  rintro e w5 ⟨ov, rfl, hown, hfrL, hm5⟩
  have hwa2 := (Array.getElem?_eq_some_iff.1 HG2.out).1
  have hm05 := Hm02.out.trans hm5 (fun _ _ h => h)
  have hI5 := hm5.heap HI2.out (fun h => h)
  have hG5 := hm5.heap HG2.out (fun h => h)
  have hL := rights_sl Hv.out hown hm05
  have hLn : RuNum (l.filter Ru.rightB) := Hn.out.filter
  have hLl : (l.filter Ru.rightB).length ≤ 80 := Nat.le_trans (List.length_filter_le _ _) hl80
  obtain ⟨L, hLL⟩ : ∃ L, l.filter Ru.rightB = L := ⟨_, rfl⟩
  have HLL := Lib.hid hLL
  rw [hLL] at hown hL hLn hLl
  obtain ⟨oa, oc, rfl, -⟩ := hown.shape
  have hnL : ∀ b, (Value.slice oa L.length oc).ownBlock = some b → b ≠ wa.heap.size := fun b hb => by have := hfrL b hb; omega
  have HownL := Lib.hid hown
  have hev := ev7_at w5 es (.slice qa q.length qc) q (Hq.out.mod hm05 (fun _ _ h => h)) (by omega) Hes.out (newL_mem q fun a ha => Hqn.out a ha)
  have Hm05 := Lib.hid hm05
  have HI5 := Lib.hid hI5
  have HG5 := Lib.hid hG5
  have HL := Lib.hid hL
  have HLn := Lib.hid hLn
  have Hev := Lib.hid hev
  have HnL := Lib.hid hnL
  clear hm05 hI5 hG5 hL hLn hev hnL hm5 hown hfrL hwa2 hLL HI2 HG2 Hri Hm02 hl80 g0 g1
  have g0 : w5.cell? ⟨wa.heap.size, 0, none⟩ = some (.string es) := cell_of HG5.out rfl
  have g1 : w5.cell? ⟨wa.heap.size, 1, none⟩ = some (.slice qa q.length qc) := cell_of HG5.out rfl
  go_wp2_with fail
  refine Hev.out.mono ?_
  rintro e w6 ⟨ev, rfl, hown, hfr, hm6⟩
  have hm06 := Hm05.out.trans hm6 (fun _ _ h => h)
  have hI6 := hm6.heap HI5.out (fun h => h)
  have hG6 := hm6.heap HG5.out (fun h => h)
  have hownL6 := HownL.out.mod hm6 (fun _ _ h => h)
  obtain ⟨ea, ec, rfl, -⟩ := hown.shape
  have hmr := fun (wx : World) (r : Ru) (hr : r.ok wx) (hv : RdSl wx 6 (.slice ea (ev7L q).length ec) (ev7L q).length (atts (ev7L q))) => match_rule wx r hr es hs60 (.slice ea (ev7L q).length ec) q hv
  obtain ⟨E, hE⟩ : ∃ E, ev7S es = E := ⟨_, rfl⟩
  have hEs : E.size ≤ 60 := by rw [← hE]; have := ev7S_size es; omega
  obtain ⟨Q, hQ⟩ : ∃ Q, ev7L q = Q := ⟨_, rfl⟩
  rw [hQ] at hown hfr
  simp only [hE, hQ] at hmr
  rw [hE, hQ]
  obtain ⟨t, ht, ht2⟩ := and1 x
  obtain ⟨u, hu, hu2⟩ := and3 y
  have hu3 : (u : Int) < 4 := by omega
  have hu0 : (0 : Int) ≤ u := by omega
  obtain ⟨W, hW, -⟩ := who_at hu2
  have hn6 : ∀ b, (Value.slice ea Q.length ec).ownBlock = some b → b ≠ wa.heap.size := fun b hb => by
    have := hfr b hb
    have := (Array.getElem?_eq_some_iff.1 HG5.out).1
    omega
  have hz0 := Hm05.out.size
  have Hm06 := Lib.hid hm06
  have HI6 := Lib.hid hI6
  have HG6 := Lib.hid hG6
  have HownL6 := Lib.hid hownL6
  have Hown := Lib.hid hown
  have Hmr := Lib.hid hmr
  have Hn6 := Lib.hid hn6
  clear hm06 hI6 hG6 hownL6 hown hmr hn6 hm6 hE hQ HI5 HG5 HL Hev Hm05 hfr g0 g1
  go_wp2_with (first | ((with_reducible refine wpList_store_row_lit 42 (.tmp 5) (.tmp 40) ?_); refine ⟨wa.heap.size, rfl, _, _, HG6.out, [.string E, .slice ea Q.length ec], rfl, rfl, by kernel_rfl, rfl, ?_⟩; intro w7 hg7 hm7; have Hg7 := Lib.hid hg7; have Hm7 := Lib.hid hm7; clear hg7 hm7) | fail)
  have hm07 : Mod (fun _ => False) w w7 := Hm06.out.upon Hm7.out (fun b hb => .inr (by omega))
  have hownL7 := HownL6.out.mod Hm7.out HnL.out
  rw [← HLL.out] at hownL7
  have hL7 := rights_sl Hv.out hownL7 hm07
  rw [HLL.out] at hL7
  have hI7 := Hm7.out.heap HI6.out (by omega)
  have hown7 := Hown.out.mod Hm7.out Hn6.out
  have Hm07 := Lib.hid hm07
  have HL7 := Lib.hid hL7
  have HI7 := Lib.hid hI7
  have Hown7 := Lib.hid hown7
  clear hm07 hL7 hI7 hown7 hownL7 HI6 HG6 Hown Hm06 HownL HownL6
  refine wp_region_news2 [.rd 0, .rd 1, .rd 2, .rd 9, .rd 4, .rd 5, .rd 6, .go 3, .rd 7, .rd 8, .rd 10] [0, 1, 2, 3, 4, 5, 6, 7, 8, 9, 10] (by kernel_rfl) (by kernel_rfl) (fun _ _ d _ _ h => (by cases d <;> exact h)) ?_
  refine news_pure rfl ?_ ?_ (fun w0 => ?_) (fun K hK => ?_)
  · (try simp only [List.getElem_toArray]); (try simp only [List.getElem_cons_succ]); (try simp only [List.getElem_cons_zero])
    go_simp; done
  rotate_left
  · (try simp only [List.getElem_toArray]); (try simp only [List.getElem_cons_succ]); (try simp only [List.getElem_cons_zero])
    go_simp; with_reducible rfl
  (try simp only [List.getElem_toArray]); (try simp only [List.getElem_cons_succ]); (try simp only [List.getElem_cons_zero])
  go_simp; refine hK _ ?_; clear hK K
  refine news_rd rfl rfl ?_ ((fun y : World => y.cell? ⟨w.heap.size, 0, none⟩ = some (.int .i64 x))) ((fun _ _ m h => m.cell h (fun h => h))) ((cell_of HI7.out rfl)) ?_ (fun w0 h0 => ?_) (fun K hK => ?_)
  · (try simp only [List.getElem_toArray]); (try simp only [List.getElem_cons_succ]); (try simp only [List.getElem_cons_zero])
    go_simp; done
  rotate_left
  · (try simp only [List.getElem_toArray]); (try simp only [List.getElem_cons_succ]); (try simp only [List.getElem_cons_zero])
    go_simp; with_reducible rfl
  (try simp only [List.getElem_toArray]); (try simp only [List.getElem_cons_succ]); (try simp only [List.getElem_cons_zero])
  go_simp; refine hK _ ?_; clear hK K
  refine news_pure rfl ?_ ?_ (fun w0 => ?_) (fun K hK => ?_)
  · (try simp only [List.getElem_toArray]); (try simp only [List.getElem_cons_succ]); (try simp only [List.getElem_cons_zero])
    go_simp; done
  rotate_left
  · (try simp only [List.getElem_toArray]); (try simp only [List.getElem_cons_succ]); (try simp only [List.getElem_cons_zero])
    go_simp; with_reducible rfl
  (try simp only [List.getElem_toArray]); (try simp only [List.getElem_cons_succ]); (try simp only [List.getElem_cons_zero])
  go_simp; refine hK _ ?_; clear hK K
  refine news_pure rfl ?_ ?_ (fun w0 => ?_) (fun K hK => ?_)
  · (try simp only [List.getElem_toArray]); (try simp only [List.getElem_cons_succ]); (try simp only [List.getElem_cons_zero])
    go_simp; done
  rotate_left
  · (try simp only [List.getElem_toArray]); (try simp only [List.getElem_cons_succ]); (try simp only [List.getElem_cons_zero])
    go_simp; with_reducible rfl
  (try simp only [List.getElem_toArray]); (try simp only [List.getElem_cons_succ]); (try simp only [List.getElem_cons_zero])
  go_simp; refine hK _ ?_; clear hK K
  refine news_pure rfl ?_ ?_ (fun w0 => ?_) (fun K hK => ?_)
  · (try simp only [List.getElem_toArray]); (try simp only [List.getElem_cons_succ]); (try simp only [List.getElem_cons_zero])
    go_simp; done
  rotate_left
  · (try simp only [List.getElem_toArray]); (try simp only [List.getElem_cons_succ]); (try simp only [List.getElem_cons_zero])
    go_simp; with_reducible rfl
  (try simp only [List.getElem_toArray]); (try simp only [List.getElem_cons_succ]); (try simp only [List.getElem_cons_zero])
  go_simp; refine hK _ ?_; clear hK K
  refine news_rd rfl rfl ?_ ((fun z : World => z.cell? ⟨w.heap.size, 1, none⟩ = some (.int .i64 y))) ((fun _ _ m h => m.cell h (fun h => h))) ((cell_of HI7.out rfl)) ?_ (fun w0 h0 => ?_) (fun K hK => ?_)
  · (try simp only [List.getElem_toArray]); (try simp only [List.getElem_cons_succ]); (try simp only [List.getElem_cons_zero])
    go_simp; done
  rotate_left
  · (try simp only [List.getElem_toArray]); (try simp only [List.getElem_cons_succ]); (try simp only [List.getElem_cons_zero])
    go_simp; with_reducible rfl
  (try simp only [List.getElem_toArray]); (try simp only [List.getElem_cons_succ]); (try simp only [List.getElem_cons_zero])
  go_simp; refine hK _ ?_; clear hK K
  refine news_pure rfl ?_ ?_ (fun w0 => ?_) (fun K hK => ?_)
  · (try simp only [List.getElem_toArray]); (try simp only [List.getElem_cons_succ]); (try simp only [List.getElem_cons_zero])
    go_simp; done
  rotate_left
  · (try simp only [List.getElem_toArray]); (try simp only [List.getElem_cons_succ]); (try simp only [List.getElem_cons_zero])
    go_simp; with_reducible rfl
  (try simp only [List.getElem_toArray]); (try simp only [List.getElem_cons_succ]); (try simp only [List.getElem_cons_zero])
  go_simp; refine hK _ ?_; clear hK K
  refine news_one (newsgo_yes rfl ?_ (fun K hK => ?_))
  · (try simp only [List.getElem_toArray]); (try simp only [List.getElem_cons_succ]); (try simp only [List.getElem_cons_zero])
    go_simp; done
  obtain ⟨wj, hwj⟩ : ∃ wj : World, w7.alloc (.cells #[.string ⟨#[97]⟩, .string ⟨#[98]⟩, .string ⟨#[99]⟩, .string ⟨#[100]⟩] 9) = wj := ⟨_, rfl⟩
  have hmwj : Mod (fun _ => False) w7 wj := hwj ▸ (Mod.refl (fun _ => False) w7).alloc _
  have hgwj := heap_alloc_new w7 (.cells #[.string ⟨#[97]⟩, .string ⟨#[98]⟩, .string ⟨#[99]⟩, .string ⟨#[100]⟩] 9)
  rw [hwj] at hgwj
  have hzwj : wj.heap.size = w7.heap.size + 1 := by rw [← hwj]; simp
  go_simp
  refine hK _ _ (fun _ => ⟨hmwj.os, hmwj.tape, hmwj.output, hmwj.size, hmwj.block⟩) ?_
  clear hK K
  obtain ⟨wk, hwk⟩ : ∃ wk, wj.drew = wk := ⟨_, rfl⟩
  have hm7k : Mod (fun _ => False) w7 wk := hwk ▸ hmwj.drew
  have hkW : wk.cell? ⟨w7.heap.size, u, none⟩ = some (.string W) := hwk ▸ (cell_of_row wj w7.heap.size u _ _ _ hgwj).trans hW
  rw [hwk]
  refine news_pure rfl ?_ ?_ (fun w0 => ?_) (fun K hK => ?_)
  · (try simp only [List.getElem_toArray]); (try simp only [List.getElem_cons_succ]); (try simp only [List.getElem_cons_zero])
    go_simp; done
  rotate_left
  · (try simp only [List.getElem_toArray]); (try simp only [List.getElem_cons_succ]); (try simp only [List.getElem_cons_zero])
    go_simp; with_reducible rfl
  (try simp only [List.getElem_toArray]); (try simp only [List.getElem_cons_succ]); (try simp only [List.getElem_cons_zero])
  go_simp; refine hK _ ?_; clear hK K
  refine news_rd rfl rfl ?_ ((fun z : World => z.cell? ⟨w7.heap.size, u, none⟩ = some (.string W))) ((fun _ _ m h => m.cell h (fun h => h))) (hkW) ?_ (fun w0 h0 => ?_) (fun K hK => ?_)
  · (try simp only [List.getElem_toArray]); (try simp only [List.getElem_cons_succ]); (try simp only [List.getElem_cons_zero])
    go_simp; done
  rotate_left
  · (try simp only [List.getElem_toArray]); (try simp only [List.getElem_cons_succ]); (try simp only [List.getElem_cons_zero])
    go_simp; with_reducible rfl
  (try simp only [List.getElem_toArray]); (try simp only [List.getElem_cons_succ]); (try simp only [List.getElem_cons_zero])
  go_simp; refine hK _ ?_; clear hK K
  refine news_pure rfl ?_ ?_ (fun w0 => ?_) (fun K hK => ?_)
  · (try simp only [List.getElem_toArray]); (try simp only [List.getElem_cons_succ]); (try simp only [List.getElem_cons_zero])
    go_simp; done
  rotate_left
  · (try simp only [List.getElem_toArray]); (try simp only [List.getElem_cons_succ]); (try simp only [List.getElem_cons_zero])
    go_simp; with_reducible rfl
  (try simp only [List.getElem_toArray]); (try simp only [List.getElem_cons_succ]); (try simp only [List.getElem_cons_zero])
  go_simp; refine hK _ ?_; clear hK K
  refine news_nil ?_
  have hm0k := Hm07.out.trans hm7k (fun _ _ h => h)
  have hGk := hm7k.heap Hg7.out (fun h => h)
  have hLk := HL7.out.mod hm7k
  have hek := Hown7.out.mod hm7k (fun _ _ h => h)
  have hLl' : (L.length : Int) ≤ 80 := by omega
  have Hm0k := Lib.hid hm0k
  have HGk := Lib.hid hGk
  have HLk := Lib.hid hLk
  have Hek := Lib.hid hek
  clear hm0k hGk hLk hek hm7k hmwj hgwj hzwj hwj hkW hW hwk ht hu hu2 hu3 hu0 HI7 Hg7 HL7 Hown7 Hm07
  go_wp2_with fail
  go_loopw [9, 52] (fun ov i wr => ∃ j : Nat, i = .int .i64 j ∧ j ≤ L.length ∧ OwnSl wr 26 8 ov ((L.take j).filter (ownP t W)).length (rus ((L.take j).filter (ownP t W))) ∧ (∀ b, ov.ownBlock = some b → wk.heap.size ≤ b) ∧ Mod (fun _ => False) wk wr) (fun _ i _ => L.length - (intOf i).toNat)
  case atStart => exact ⟨0, rfl, Nat.zero_le _, OwnSl.nil _ _ _, fun b hb => (by cases hb), Mod.refl _ _⟩
  case round =>
    obtain ⟨j, rfl, hj, hown, hfr, hmr⟩ := hrel
    by_cases hlt : j < L.length
    · have hlt' : (j : Int) < L.length := by omega
      obtain ⟨x, hxj⟩ : ∃ x, L[j]? = some x := ⟨_, List.getElem?_eq_getElem hlt⟩
      obtain ⟨g, off, rfl, hf⟩ : ∃ g off, oa = some ⟨g, off, none⟩ ∧ CellsAt wr g (off + j * 8) x.cells := rd_rule (HLk.out.mod hmr) hxj
      have hnx := filter_take (ownP t W) hxj
      have hle : ((L.take j).filter (ownP t W)).length ≤ j := Nat.le_trans (List.length_filter_le _ _) (List.length_take_le _ _)
      obtain ⟨acc, hacc⟩ : ∃ q, (L.take j).filter (ownP t W) = q := ⟨_, rfl⟩
      rw [hacc] at hown hnx hle
      obtain ⟨nx, hnx'⟩ : ∃ q, (L.take (j + 1)).filter (ownP t W) = q := ⟨_, rfl⟩
      rw [hnx'] at hnx
      obtain ⟨pa, pc, rfl, -⟩ := hown.shape
      obtain ⟨wz, hwz⟩ : ∃ wz : World, wr.alloc (.cells x.cells.toArray 26) = wz := ⟨_, rfl⟩
      have hmwz : Mod (fun _ => False) wr wz := hwz ▸ (Mod.refl (fun _ => False) wr).alloc _
      have hgwz := heap_alloc_new wr (.cells x.cells.toArray 26)
      rw [hwz] at hgwz
      have hzwz : wz.heap.size = wr.heap.size + 1 := by rw [← hwz]; simp
      have hmz := hmr.trans hmwz (fun _ _ h => h)
      have hownz := hown.mod hmwz (fun _ _ h => h)
      have hlz3 : wr.heap.size < wz.heap.size := by omega
      have c0 : wz.cell? ⟨wr.heap.size, 0, none⟩ = some (.int .i64 x.kind) := cell_of hgwz rfl
      have c1 : wz.cell? ⟨wr.heap.size, 1, none⟩ = some (.int .i64 x.tenant) := cell_of hgwz rfl
      have c2 : wz.cell? ⟨wr.heap.size, 2, none⟩ = some (.string x.who) := cell_of hgwz rfl
      have Hxj := Lib.hid hxj
      have Hf := Lib.hid hf
      have Hwz := Lib.hid hwz
      have Hgwz := Lib.hid hgwz
      have Hmz := Lib.hid hmz
      have Hownz := Lib.hid hownz
      have Hfr := Lib.hid hfr
      have Hnx := Lib.hid hnx
      have Hnx' := Lib.hid hnx'
      clear hxj hf hwz hgwz hmz hownz hfr hnx hnx' hzwz hmwz hown hmr hacc
      cases hp : ownP t W x with
      | false =>
        have hnx2 : nx = acc := by rw [Hnx.out, if_neg (by rw [hp]; decide), List.append_nil]
        have hown4 := Hownz.out
        rw [← hnx2, ← Hnx'.out] at hown4
        have hlen : acc.length = ((L.take (j + 1)).filter (ownP t W)).length := by rw [Hnx'.out, hnx2]
        have Hown4 := Lib.hid hown4
        have Hlen := Lib.hid hlen
        clear hown4 hlen hnx2
        refine own_cases hp (fun h1 => ?_) (fun h1 h2 => ?_) (fun h1 h2 h3 => ?_)
        all_goals
          clear hp
          go_wp2_with (first | ((with_reducible refine wpList_load_lit 26 (.tmp 54) ?_); refine ⟨g, off + j * 8, rfl, x.cells, Hf.out, by kernel_rfl, by kernel_rfl, ?_⟩) | ((with_reducible refine wpList_store_lit 26 (.tmp 11) (.tmp 55) ?_); refine ⟨rfl, x.cells, rfl, rfl, by kernel_rfl, rfl, ?_⟩; rw [Hwz.out]) | fail)
          go_roundw
          case rel => exact ⟨j + 1, by go_num, hlt, by rw [Hlen.out]; exact Hown4.out, Hfr.out, Hmz.out⟩
          case measure => simp [intOf]; omega
      | true =>
        have hnx2 : nx = acc ++ [x] := by rw [Hnx.out, if_pos hp]
        obtain ⟨h1, h2, h3⟩ := own_yes hp
        obtain ⟨wS, hwS⟩ : ∃ wS : World, wz.alloc (.cells x.cells.toArray 26) = wS := ⟨_, rfl⟩
        have hmwS : Mod (fun _ => False) wz wS := hwS ▸ (Mod.refl (fun _ => False) wz).alloc _
        have hgwS := heap_alloc_new wz (.cells x.cells.toArray 26)
        rw [hwS] at hgwS
        have hzwS : wS.heap.size = wz.heap.size + 1 := by rw [← hwS]; simp
        have hrd : RdSl wS 8 (.slice (some ⟨wz.heap.size, 0, none⟩) 1 1) 1 x.cells := hwS ▸ RdSl.one wz x.cells 26 rfl
        have hwS' : wz.alloc (.cells #[.int .i64 x.kind, .int .i64 x.tenant, .string x.who, .int .i64 x.broker, .string x.sc, .slice x.ca x.cs.length x.cc, .string x.name, .int .i64 x.at_] 26) = wS := hwS
        have hownS := Hownz.out.mod hmwS (fun _ _ h => h)
        have hm0S := Hmz.out.trans hmwS (fun _ _ h => h)
        have hone : ∀ u ∈ x.cells, u.oneCell' = true := fun u hu => List.all_eq_true.1 (show x.cells.all (·.oneCell') = true from rfl) u hu
        have hlen : acc.length + 1 = ((L.take (j + 1)).filter (ownP t W)).length := by rw [Hnx'.out, hnx2]; simp
        have hrus : rus acc ++ x.cells = rus ((L.take (j + 1)).filter (ownP t W)) := by rw [Hnx'.out, hnx2, rus_append, rus_cons]; simp [rus]
        have Hrd := Lib.hid hrd
        have HwS' := Lib.hid hwS'
        have HownS := Lib.hid hownS
        have Hm0S := Lib.hid hm0S
        have Hone := Lib.hid hone
        have Hlen := Lib.hid hlen
        have Hrus := Lib.hid hrus
        clear hrd hwS' hownS hm0S hone hlen hrus hwS hmwS hgwS hzwS hp hnx2
        go_wp2_with (first | ((with_reducible refine wpList_load_lit 26 (.tmp 54) ?_); refine ⟨g, off + j * 8, rfl, x.cells, Hf.out, by kernel_rfl, by kernel_rfl, ?_⟩) | ((with_reducible refine wpList_store_lit 26 (.tmp 11) (.tmp 55) ?_); refine ⟨rfl, x.cells, rfl, rfl, by kernel_rfl, rfl, ?_⟩; rw [Hwz.out]) | (rw [show wz.alloc _ = wS from HwS'.out]) | ((with_reducible refine wpList_load_lit 26 (.tmp 11) ?_); refine ⟨wr.heap.size, 0, rfl, [.int .i64 x.kind, .int .i64 x.tenant, .string x.who, .int .i64 x.broker, .string x.sc, .slice x.ca x.cs.length x.cc, .string x.name, .int .i64 x.at_], CellsAt.row Hgwz.out, by kernel_rfl, by kernel_rfl, ?_⟩) | ((with_reducible refine wpList_append_lit (.tmp 71) (.tmp 73) 29 ?_); refine ⟨rfl, 26, 8, 104, rules_T, .slice pa acc.length pc, acc.length, rus acc, rfl, HownS.out, _, 1, x.cells, rfl, Hrd.out, Hone.out, by omega, by unfold maxLen; omega, ?_⟩; intro ad cap2 w4 hA; have HA := Lib.hid hA; clear hA) | fail)
        have hown5 := HA.out.1
        rw [Hrus.out] at hown5
        have hfr5 : ∀ b, (Value.slice ad (acc.length + 1) cap2).ownBlock = some b → wk.heap.size ≤ b := fun b hb => by
          rcases HA.out.2.2 with h | ⟨k, h, hk⟩
          · exact Hfr.out b (by rw [← h]; exact hb)
          · rw [h] at hb; cases hb
            have := Hm0S.out.size
            omega
        have hm05 : Mod (fun _ => False) wk w4 := Hm0S.out.upon HA.out.2.1 (fun b hb => .inr (Hfr.out b hb))
        have Hown5 := Lib.hid hown5
        have Hfr5 := Lib.hid hfr5
        have Hm05 := Lib.hid hm05
        clear hown5 hfr5 hm05 HA
        go_roundw
        case rel => exact ⟨j + 1, by go_num, hlt, by rw [← Hlen.out]; exact Hown5.out, Hfr5.out, Hm05.out⟩
        case measure => simp [intOf]; omega
    · obtain rfl : j = L.length := by omega
      rw [List.take_length] at hown
      obtain ⟨pa, pc, rfl, -⟩ := hown.shape
      have hO : RuSl wr (.slice pa (L.filter (ownP t W)).length pc) (L.filter (ownP t W)) := ⟨hown.rd, fun r hr => (HLk.out.ok r (List.mem_filter.1 hr).1).mod hmr⟩
      have hOn : RuNum (L.filter (ownP t W)) := HLn.out.filter
      have hOl : (L.filter (ownP t W)).length ≤ 80 := Nat.le_trans (List.length_filter_le _ _) hLl
      have hH := home_own L t W
      have hP1 := any_own L t W 1 (by decide) (fun r => filMatch r.sc r.cs E Q)
      have hP2 := any_own L t W 2 (by decide) (covB E [])
      obtain ⟨O, hOO⟩ : ∃ O, L.filter (ownP t W) = O := ⟨_, rfl⟩
      rw [hOO] at hO hOn hOl hH hP1 hP2
      clear hown
      rw [hOO]
      have hm0r := Hm0k.out.trans hmr (fun _ _ h => h)
      have hGr := hmr.heap HGk.out (fun h => h)
      have hLr := HLk.out.mod hmr
      have her := Hek.out.mod hmr (fun _ _ h => h)
      obtain ⟨wf, hwf⟩ : ∃ wf : World, wr.alloc (.cells #[.string E, .slice none 0 0] 24) = wf := ⟨_, rfl⟩
      have hmwf : Mod (fun _ => False) wr wf := hwf ▸ (Mod.refl (fun _ => False) wr).alloc _
      have hgwf := heap_alloc_new wr (.cells #[.string E, .slice none 0 0] 24)
      rw [hwf] at hgwf
      have hzwf : wf.heap.size = wr.heap.size + 1 := by rw [← hwf]; simp
      have hm0f := hm0r.trans hmwf (fun _ _ h => h)
      have hGf := hmwf.heap hGr (fun h => h)
      have hLf := hLr.mod hmwf
      have hOf := hO.mod hmwf
      have hef := her.mod hmwf (fun _ _ h => h)
      have hho := home_at wf (.slice oa L.length oc) L hLf (by omega) t W
      have hgr0 : wr.cell? ⟨wa.heap.size, 0, none⟩ = some (.string E) := cell_of hGr rfl
      have hlz4 : wr.heap.size < wf.heap.size := by omega
      have hlz5 : wa.heap.size < wr.heap.size := (Array.getElem?_eq_some_iff.1 hGr).1
      have Hwf := Lib.hid hwf
      have Hgwf := Lib.hid hgwf
      have Hm0f := Lib.hid hm0f
      have HGf := Lib.hid hGf
      have HLf := Lib.hid hLf
      have HOf := Lib.hid hOf
      have Hef := Lib.hid hef
      have Hho := Lib.hid hho
      have HOn := Lib.hid hOn
      have HH := Lib.hid hH
      have HP1 := Lib.hid hP1
      have HP2 := Lib.hid hP2
      clear hwf hgwf hm0f hGf hLf hOf hef hho hOn hH hP1 hP2 hmwf hzwf hm0r hGr hLr her hO hOO hmr hfr Hm0k HGk HLk Hek
      go_wp2_with (first | ((with_reducible refine wpList_store_lit 24 (.tmp 12) (.tmp 78) ?_); refine ⟨rfl, [.string E, .slice none 0 0], rfl, rfl, by kernel_rfl, rfl, ?_⟩; rw [Hwf.out]) | fail)
      refine Hho.out.mono ?_
      rintro e w8 ⟨rfl, hm8⟩
      have hm08 := Hm0f.out.trans hm8 (fun _ _ h => h)
      have hG8 := hm8.heap HGf.out (fun h => h)
      have hF8 := hm8.heap Hgwf.out (fun h => h)
      have hL8 := HLf.out.mod hm8
      have hO8 := HOf.out.mod hm8
      have he8 := Hef.out.mod hm8 (fun _ _ h => h)
      have hrh := home_at w8 (.slice pa O.length pc) O hO8 (by omega) t W
      rw [HH.out] at hrh
      obtain ⟨H0, hH0⟩ : ∃ q, (homeOf L t W).getD 0 = q := ⟨_, rfl⟩
      obtain ⟨X, hX⟩ : ∃ q, (homeOf L t W).isSome = q := ⟨_, rfl⟩
      rw [hH0, hX] at hrh ⊢
      have Hm08 := Lib.hid hm08
      have HG8 := Lib.hid hG8
      have HF8 := Lib.hid hF8
      have HL8 := Lib.hid hL8
      have HO8 := Lib.hid hO8
      have He8 := Lib.hid he8
      have Hrh := Lib.hid hrh
      have HX := Lib.hid hX
      clear hm08 hG8 hF8 hL8 hO8 he8 hrh hX hm8 HGf Hgwf HLf HOf Hef Hho Hm0f hgr0 hH0
      go_wp2_with fail
      refine Hrh.out.mono ?_
      rintro e w9 ⟨rfl, hm9⟩
      have hm09 := Hm08.out.trans hm9 (fun _ _ h => h)
      have hG9 := hm9.heap HG8.out (fun h => h)
      have hF9 := hm9.heap HF8.out (fun h => h)
      have hL9 := HL8.out.mod hm9
      have hO9 := HO8.out.mod hm9
      have he9 := He8.out.mod hm9 (fun _ _ h => h)
      have hpb : ∀ (K : List Ru) (kv : Value), RuSl w9 kv K → K.length ≤ 80 → ∀ w', Mod (fun _ => False) w9 w' → Calls Try.prog 19 #[kv, .int .i64 t, .string W, .agg #[.string E, .slice ea Q.length ec]] w' fun e w'' =>
          e = .returned (.bool ((homeOf K t W).isSome && K.any fun r => r.of 1 t W && filMatch r.sc r.cs E Q)) ∧ Mod (fun _ => False) w9 w'' := fun K kv hK hKl w' hw' =>
        (may_publish (fun r => filMatch r.sc r.cs E Q) w' kv K (hK.mod hw') (by omega) t W E ea Q.length ec (fun r hr wx hwx => Hmr.out wx r (((hK.mod hw').ok r hr).mod hwx) ((he9.mod hw' (fun _ _ h => h)).mod hwx (fun _ _ h => h)).rd)).mono fun e w'' h => ⟨h.1, hw'.trans h.2 (fun _ _ h => h)⟩
      have hob : ∀ (K : List Ru) (kv : Value), RuSl w9 kv K → K.length ≤ 80 → RuNum K → ∀ w', Mod (fun _ => False) w9 w' → Calls Try.prog 16 #[kv, .int .i64 t, .string W, .agg #[.string E, .slice none 0 0]] w' fun e w'' =>
          e = .returned (.bool ((homeOf K t W).isSome && K.any fun r => r.of 2 t W && covB E [] r)) ∧ Mod (fun _ => False) w9 w'' := fun K kv hK hKl hKn w' hw' =>
        (may_observe (covB E []) w' kv K (hK.mod hw') (by omega) t W E none 0 0 (fun r hr wx hwx ho => covers_at wx r (((hK.mod hw').ok r hr).mod hwx) (hKn r hr) E (.slice none 0 0) [] ⟨rfl, none, 0, rfl, Nat.le_refl _, fun _ => rfl, fun b hb _ => (by cases hb)⟩ (by simp) (by omega) (fun d hd => (by simp at hd)))).mono fun e w'' h => ⟨h.1, hw'.trans h.2 (fun _ _ h => h)⟩
      have hp1 := hpb L _ hL9 hLl
      have hp2 := hpb O _ hO9 hOl
      have ho1 := hob L _ hL9 hLl HLn.out
      have ho2 := hob O _ hO9 hOl HOn.out
      rw [HH.out, HP1.out] at hp2
      rw [HH.out, HP2.out] at ho2
      obtain ⟨B, hB⟩ : ∃ q, ((homeOf L t W).isSome && L.any fun r => r.of 1 t W && filMatch r.sc r.cs E Q) = q := ⟨_, rfl⟩
      obtain ⟨C, hC⟩ : ∃ q, ((homeOf L t W).isSome && L.any fun r => r.of 2 t W && covB E [] r) = q := ⟨_, rfl⟩
      rw [hB] at hp1 hp2
      rw [hC] at ho1 ho2
      have hf : ∀ w', Mod (fun _ => False) w9 w' → w'.cell? ⟨wa.heap.size, 0, none⟩ = some (.string E) ∧ w'.cell? ⟨wa.heap.size, 1, none⟩ = some (.slice ea Q.length ec) ∧ w'.cell? ⟨wr.heap.size, 0, none⟩ = some (.string E) ∧ w'.cell? ⟨wr.heap.size, 1, none⟩ = some (.slice none 0 0) := fun w' hw' =>
        ⟨cell_of (hw'.heap hG9 (fun h => h)) rfl, cell_of (hw'.heap hG9 (fun h => h)) rfl, cell_of (hw'.heap hF9 (fun h => h)) rfl, cell_of (hw'.heap hF9 (fun h => h)) rfl⟩
      have e1 : (H0 == H0) = true := beq_self_eq_true _
      have e2 : (X == X) = true := by cases X <;> rfl
      have e3 : (B == B) = true := by cases B <;> rfl
      have e4 : (C == C) = true := by cases C <;> rfl
      have Hm09 := Lib.hid hm09
      have Hp1 := Lib.hid hp1
      have Hp2 := Lib.hid hp2
      have Ho1 := Lib.hid ho1
      have Ho2 := Lib.hid ho2
      have Hf := Lib.hid hf
      clear hm09 hp1 hp2 ho1 ho2 hf hm9 HG8 HF8 HL8 HO8 He8 Hrh Hm08 hG9 hF9 hL9 hO9 he9 hB hC hpb hob
      go_wp2_with fail
      refine wp_region_news (by kernel_rfl) (by kernel_rfl) ?_
      iterate 35 (first
        | (refine quiet_skip ?_ (fun K hK => ?_)
           · first | (go_simp; done) | (go_simp; simp [undef]; done)
           go_simp; refine hK _ ?_; clear hK K)
        | (refine quiet_do ?_ ?_ (fun w' hw' => ?_) (fun K hK => ?_)
           · first | (go_simp; done) | (go_simp; simp [undef]; done)
           rotate_left
           · obtain ⟨f1, f2, f3, f4⟩ := Hf.out w' hw'
             go_simp
             rfl
           go_simp; refine hK _ ?_; clear hK K)
        | (refine quiet_in ?_ ?_ ?_ ?_ (fun w' hw' => ?_) ?_ (fun K hK => ?_)
           · first | (go_simp; done) | (go_simp; simp [undef]; done)
           rotate_left 3
           · obtain ⟨f1, f2, f3, f4⟩ := Hf.out w' hw'
             go_simp
             constructor <;> rfl
           · first | with_reducible exact Hp1.out | with_reducible exact Hp2.out | with_reducible exact Ho1.out | with_reducible exact Ho2.out
           go_simp; refine hK _ ?_; clear hK K))
      refine quiet_end (fun w' hw' => ?_)
      have Hw' := Lib.hid (Hm09.out.trans hw' (fun _ _ h => h))
      clear hw'
      go_wp2
      go_ret
      exact ⟨rfl, Hw'.out⟩
end Go.Proofs.Ytkhijaemajpnaaa
