/-
  RedactEvents: a principal sees of an event what is not hidden from it there.
-/
import Derived.Test.YtpfnemkfbelpcaaRseen
import Derived.Test.YtpfnemkfbelpcaaFit11
import Derived.Test.YtpfnemkfbelpcaaPubm
import Derived.Test.YtpfnemkfbelpcaaEvsame
namespace Go.Proofs.Ytpfnemkfbelpcaa
set_option maxRecDepth 20000
open Go.RowKit

theorem attsSame_self (l : List Att) : attsSame l l = true := by
  induction l with
  | nil => rfl
  | cons a l ih =>
    simp only [attsSame, Bool.and_eq_true]
    exact ⟨by simp [Att.same, V.same_self], ih⟩
theorem canon_lt2 {v : V} (h : v.num < 2 ^ 64) : v.canon.num < 2 ^ 64 := by
  unfold V.canon
  split
  · show (0 : Nat) < 2 ^ 64; decide
  · split
    · exact canonB_lt h
    · split
      · show (0 : Nat) < 2 ^ 64; decide
      · split
        · show (0 : Nat) < 2 ^ 64; decide
        · show (0 : Nat) < 2 ^ 64; decide
theorem ev7L_num {q : List Att} (h : ∀ a ∈ q, a.v.num < 2 ^ 64) : ∀ a ∈ ev7L q, a.v.num < 2 ^ 64 := fun a ha =>
  newL_mem (p := fun a => a.v.num < 2 ^ 64) q (fun a ha => canon_lt2 (h a ha)) a (ev7L_mem ha).1
theorem evRight_of {l : List Att} (hr : rises l) (h8 : l.length ≤ 8) (he : ∀ a ∈ l, evRight [a] = true) : evRight l = true := by
  unfold evRight
  rw [Bool.and_eq_true, decide_eq_true_eq, List.all_eq_true]
  refine ⟨fun k hk => ?_, h8⟩
  have hk : k < l.length := List.mem_range.1 hk
  have hx : l[k]? = some l[k] := List.getElem?_eq_getElem hk
  have hq : l[k - 1]? = some l[k - 1] := List.getElem?_eq_getElem (by omega)
  have h1 := he l[k] (List.getElem_mem hk)
  rw [okAt_is hx hq]
  have h0 : evRight [l[k]] = (isName l[k].name && l[k].v.right && true && l[k].v.kept && true && true) := rfl
  rw [h0] at h1
  simp only [Bool.and_true, Bool.and_eq_true] at h1
  obtain ⟨⟨h2, h3⟩, h4⟩ := h1
  rw [h2, h3, h4, Bool.and_true, Bool.and_true, Bool.true_and]
  cases k with
  | zero => rfl
  | succ k =>
    have h5 := hr k (k + 1) _ _ (Nat.lt_succ_self k) hq hx
    rw [Lib.toList_data, Lib.toList_data]
    exact Bool.or_eq_true_iff.2 (.inr h5)
theorem keepA_rises {H : List (List UInt8)} {Q : List Att} (h : rises Q) : rises (keepA H Q) := h.sub List.filter_sublist
theorem keepA_twice (H : List (List UInt8)) (Q : List Att) : keepA H (keepA H Q) = keepA H Q := by
  unfold keepA
  rw [List.filter_filter]
  congr 1
  funext a
  rw [Bool.and_self]
theorem keepA_mem {H : List (List UInt8)} {Q : List Att} : ∀ a ∈ keepA H Q, a ∈ Q := fun _ ha => (List.mem_filter.1 ha).1

set_option maxHeartbeats 8000000 in
theorem redev_walk (w : World) (v : Value) (l : List Ru) (hv : RuSl w v l) (hll : l.length ≤ 9223372036854775807) (x y : Int) (es : ByteArray) (av : Value) (q : List Att) (hq : RdSl w 6 av q.length (atts q)) (hql : q.length ≤ 9223372036854775807) (hes : es.size ≤ 9223372036854775807)
    (hqn : ∀ a ∈ q, a.name.size ≤ 9223372036854775807) (hqm : ∀ a ∈ q, a.v.num < 2 ^ 64) :
    Calls Try.prog 5 #[v, .agg #[.int .i64 x, .int .i64 y], .agg #[.string es, av]] w fun e w' => e = .returned (.bool true) ∧ Mod (fun _ => False) w w' := by
  obtain ⟨qa, qc, rfl, hqc⟩ : ∃ a c, av = .slice a q.length c ∧ q.length ≤ c := by obtain ⟨-, a, c, h, h2, -⟩ := hq; exact ⟨a, c, h, h2⟩
  have hes' : (es.size : Int) ≤ 9223372036854775807 := by omega
  have hql' : (q.length : Int) ≤ 9223372036854775807 := by omega
  obtain ⟨wa, hwa⟩ : ∃ wa : World, w.alloc (.cells #[.int .i64 x, .int .i64 y] 23) = wa := ⟨_, rfl⟩
  have hmwa : Mod (fun _ => False) w wa := hwa ▸ (Mod.refl (fun _ => False) w).alloc _
  have hgwa := heap_alloc_new w (.cells #[.int .i64 x, .int .i64 y] 23)
  rw [hwa] at hgwa
  have hzwa : wa.heap.size = w.heap.size + 1 := by rw [← hwa]; simp
  obtain ⟨wb, hwb⟩ : ∃ wb : World, wa.alloc (.cells #[.string es, .slice qa q.length qc] 40) = wb := ⟨_, rfl⟩
  have hmwb : Mod (fun _ => False) wa wb := hwb ▸ (Mod.refl (fun _ => False) wa).alloc _
  have hgwb := heap_alloc_new wa (.cells #[.string es, .slice qa q.length qc] 40)
  rw [hwb] at hgwb
  have hzwb : wb.heap.size = wa.heap.size + 1 := by rw [← hwb]; simp
  have hmb := hmwa.trans hmwb (fun _ _ h => h)
  have hI := hmwb.heap hgwa (fun h => h)
  have hft := fit11_at wb
  have hlz : w.heap.size < wa.heap.size := by omega
  have hlz2 : w.heap.size < w.heap.size + 1 := by omega
  have Hwa := Lib.hid hwa
  have Hwb := Lib.hid hwb
  have Hmb := Lib.hid hmb
  have HI := Lib.hid hI
  have Hgwb := Lib.hid hgwb
  have Hft := Lib.hid hft
  have Hv := Lib.hid hv
  have Hq := Lib.hid hq
  have Hqn := Lib.hid hqn
  have Hqm := Lib.hid hqm
  have Hll := Lib.hid hll
  have Hql := Lib.hid hql
  have Hes := Lib.hid hes
  clear hwa hwb hmb hI hgwb hft hv hq hqn hqm hll hql hes hmwa hmwb hgwa hzwa hzwb
  go_enter Try.func5, Try.ntmps5
  go_wp2_with (first | (rw [show w.alloc _ = wa from Hwa.out]) | (rw [show wa.alloc _ = wb from Hwb.out]) | fail)
  refine Hft.out.mono ?_
  rintro e w1 ⟨rfl, hm1⟩
  have hm01 := Hmb.out.trans hm1 (fun _ _ h => h)
  have hI1 := hm1.heap HI.out (fun h => h)
  have hG1 := hm1.heap Hgwb.out (fun h => h)
  have hli := light10_at w1 v l (Hv.out.mod hm01) Hll.out
  have Hm01 := Lib.hid hm01
  have HI1 := Lib.hid hI1
  have HG1 := Lib.hid hG1
  have Hli := Lib.hid hli
  clear hm01 hI1 hG1 hli hm1 Hft HI Hgwb Hmb
  go_wp2_with fail
  refine Hli.out.mono ?_
  rintro e w2 ⟨b, rfl, hb, hm2⟩
  have hm02 := Hm01.out.trans hm2 (fun _ _ h => h)
  have hI2 := hm2.heap HI1.out (fun h => h)
  have hG2 := hm2.heap HG1.out (fun h => h)
  cases b with
  | false =>
    have Hm02 := Lib.hid hm02
    clear hm02 hm2 hI2 hG2 hb
    go_wp2
    go_ret
    exact ⟨rfl, Hm02.out⟩
  | true =>
  have hl80 := hb rfl
  have Hm02 := Lib.hid hm02
  have HI2 := Lib.hid hI2
  have HG2 := Lib.hid hG2
  clear hm02 hI2 hG2 hm2 hb HI1 HG1 Hli Hm01
  have g0 : w2.cell? ⟨wa.heap.size, 0, none⟩ = some (.string es) := cell_of HG2.out rfl
  have g1 : w2.cell? ⟨wa.heap.size, 1, none⟩ = some (.slice qa q.length qc) := cell_of HG2.out rfl
  by_cases hs60 : es.size ≤ 60
  rotate_left
  · have hs60' : (60 : Int) < es.size := by omega
    go_wp2
    go_ret
    exact ⟨rfl, Hm02.out⟩
  have hs60' : (es.size : Int) ≤ 60 := by omega
  by_cases hq20 : q.length ≤ 20
  rotate_left
  · have hq20' : (20 : Int) < q.length := by omega
    go_wp2
    go_ret
    exact ⟨rfl, Hm02.out⟩
  have hq20' : (q.length : Int) ≤ 20 := by omega
  have hri := rights_at w2 v l (Hv.out.mod Hm02.out) (by omega)
  have Hri := Lib.hid hri
  clear hri
  go_wp2_with fail
  refine Hri.out.mono ?_
  rintro e w5 ⟨ov, rfl, hown, hfrL, hm5⟩
  have hwa2 := (Array.getElem?_eq_some_iff.1 HG2.out).1
  have hm05 := Hm02.out.trans hm5 (fun _ _ h => h)
  have hI5 := hm5.heap HI2.out (fun h => h)
  have hG5 := hm5.heap HG2.out (fun h => h)
  have hL := rights_sl Hv.out hown hm05
  have hLl : (l.filter Ru.rightB).length ≤ 80 := Nat.le_trans (List.length_filter_le _ _) hl80
  obtain ⟨L, hLL⟩ : ∃ L, l.filter Ru.rightB = L := ⟨_, rfl⟩
  have HLL := Lib.hid hLL
  rw [hLL] at hown hL hLl
  obtain ⟨oa, oc, rfl, -⟩ := hown.shape
  have hnL : ∀ b, (Value.slice oa L.length oc).ownBlock = some b → b ≠ wa.heap.size := fun b hb => by have := hfrL b hb; omega
  have HownL := Lib.hid hown
  have hev := ev7_at w5 es (.slice qa q.length qc) q (Hq.out.mod hm05 (fun _ _ h => h)) (by omega) Hes.out (newL_mem q fun a ha => Hqn.out a ha)
  have Hm05 := Lib.hid hm05
  have HI5 := Lib.hid hI5
  have HG5 := Lib.hid hG5
  have HL := Lib.hid hL
  have Hev := Lib.hid hev
  have HnL := Lib.hid hnL
  clear hm05 hI5 hG5 hL hev hnL hm5 hown hfrL hwa2 hLL HI2 HG2 Hri Hm02 hl80 g0 g1
  have g0 : w5.cell? ⟨wa.heap.size, 0, none⟩ = some (.string es) := cell_of HG5.out rfl
  have g1 : w5.cell? ⟨wa.heap.size, 1, none⟩ = some (.slice qa q.length qc) := cell_of HG5.out rfl
  go_wp2_with fail
  refine Hev.out.mono ?_
  rintro e w6 ⟨ev, rfl, hown, hfr, hm6⟩
  have hm06 := Hm05.out.trans hm6 (fun _ _ h => h)
  have hI6 := hm6.heap HI5.out (fun h => h)
  have hG6 := hm6.heap HG5.out (fun h => h)
  have hownL6 := HownL.out.mod hm6 (fun _ _ h => h)
  obtain ⟨ea, ec, rfl, -⟩ := hown.shape
  obtain ⟨E, hE⟩ : ∃ E, ev7S es = E := ⟨_, rfl⟩
  obtain ⟨Q, hQ⟩ : ∃ Q, ev7L q = Q := ⟨_, rfl⟩
  have hEs := ev7S_size es
  have hQ8 := ev7L_le q
  have hQr := ev7L_rises q
  have hQt := ev7L_text (l := q)
  have hQn := ev7L_num (q := q) Hqm.out
  have hQ1 : ∀ a ∈ ev7L q, evRight [a] = true := fun a ha => (ev7L_mem ha).2
  rw [hQ] at hown hfr hQ8 hQr hQt hQn hQ1
  rw [hE] at hEs
  rw [hE, hQ]
  obtain ⟨t, ht, ht2⟩ := and1 x
  obtain ⟨u, hu, hu2⟩ := and3 y
  have hu3 : (u : Int) < 4 := by omega
  have hu0 : (0 : Int) ≤ u := by omega
  obtain ⟨W, hW, -⟩ := who_at hu2
  have hn6 : ∀ b, (Value.slice ea Q.length ec).ownBlock = some b → b ≠ wa.heap.size := fun b hb => by
    have := hfr b hb
    have := (Array.getElem?_eq_some_iff.1 HG5.out).1
    omega
  have hz0 := Hm05.out.size
  have Hm06 := Lib.hid hm06
  have HI6 := Lib.hid hI6
  have HG6 := Lib.hid hG6
  have HownL6 := Lib.hid hownL6
  have Hown := Lib.hid hown
  have Hn6 := Lib.hid hn6
  have HQr := Lib.hid hQr
  have HQt := Lib.hid hQt
  have HQn := Lib.hid hQn
  have HQ1 := Lib.hid hQ1
  clear hm06 hI6 hG6 hownL6 hown hn6 hQr hQt hQn hQ1 hm6 hE hQ HI5 HG5 HL Hev Hm05 hfr g0 g1
  go_wp2_with (first | ((with_reducible refine wpList_store_row_lit 40 (.tmp 5) (.tmp 33) ?_); refine ⟨wa.heap.size, rfl, _, _, HG6.out, [.string E, .slice ea Q.length ec], rfl, rfl, by kernel_rfl, rfl, ?_⟩; intro w7 hg7 hm7; have Hg7 := Lib.hid hg7; have Hm7 := Lib.hid hm7; clear hg7 hm7) | fail)
  have hm07 : Mod (fun _ => False) w w7 := Hm06.out.upon Hm7.out (fun b hb => .inr (by omega))
  have hownL7 := HownL6.out.mod Hm7.out HnL.out
  rw [← HLL.out] at hownL7
  have hL7 := rights_sl Hv.out hownL7 hm07
  rw [HLL.out] at hL7
  have hI7 := Hm7.out.heap HI6.out (by omega)
  have hown7 := Hown.out.mod Hm7.out Hn6.out
  have Hm07 := Lib.hid hm07
  have HL7 := Lib.hid hL7
  have HI7 := Lib.hid hI7
  have Hown7 := Lib.hid hown7
  clear hm07 hL7 hI7 hown7 hownL7 HI6 HG6 Hown Hm06 HownL HownL6
  refine wp_region_news2 [.rd 0, .rd 1, .rd 2, .rd 9, .rd 4, .rd 5, .rd 6, .go 3, .rd 7, .rd 8, .rd 10] [0, 1, 2, 3, 4, 5, 6, 7, 8, 9, 10] (by kernel_rfl) (by kernel_rfl) (fun _ _ d _ _ h => (by cases d <;> exact h)) ?_
  refine news_pure rfl ?_ ?_ (fun w0 => ?_) (fun K hK => ?_)
  · (try simp only [List.getElem_toArray]); (try simp only [List.getElem_cons_succ]); (try simp only [List.getElem_cons_zero])
    go_simp; done
  rotate_left
  · (try simp only [List.getElem_toArray]); (try simp only [List.getElem_cons_succ]); (try simp only [List.getElem_cons_zero])
    go_simp; with_reducible rfl
  (try simp only [List.getElem_toArray]); (try simp only [List.getElem_cons_succ]); (try simp only [List.getElem_cons_zero])
  go_simp; refine hK _ ?_; clear hK K
  refine news_rd rfl rfl ?_ ((fun y : World => y.cell? ⟨w.heap.size, 0, none⟩ = some (.int .i64 x))) ((fun _ _ m h => m.cell h (fun h => h))) ((cell_of HI7.out rfl)) ?_ (fun w0 h0 => ?_) (fun K hK => ?_)
  · (try simp only [List.getElem_toArray]); (try simp only [List.getElem_cons_succ]); (try simp only [List.getElem_cons_zero])
    go_simp; done
  rotate_left
  · (try simp only [List.getElem_toArray]); (try simp only [List.getElem_cons_succ]); (try simp only [List.getElem_cons_zero])
    go_simp; with_reducible rfl
  (try simp only [List.getElem_toArray]); (try simp only [List.getElem_cons_succ]); (try simp only [List.getElem_cons_zero])
  go_simp; refine hK _ ?_; clear hK K
  refine news_pure rfl ?_ ?_ (fun w0 => ?_) (fun K hK => ?_)
  · (try simp only [List.getElem_toArray]); (try simp only [List.getElem_cons_succ]); (try simp only [List.getElem_cons_zero])
    go_simp; done
  rotate_left
  · (try simp only [List.getElem_toArray]); (try simp only [List.getElem_cons_succ]); (try simp only [List.getElem_cons_zero])
    go_simp; with_reducible rfl
  (try simp only [List.getElem_toArray]); (try simp only [List.getElem_cons_succ]); (try simp only [List.getElem_cons_zero])
  go_simp; refine hK _ ?_; clear hK K
  refine news_pure rfl ?_ ?_ (fun w0 => ?_) (fun K hK => ?_)
  · (try simp only [List.getElem_toArray]); (try simp only [List.getElem_cons_succ]); (try simp only [List.getElem_cons_zero])
    go_simp; done
  rotate_left
  · (try simp only [List.getElem_toArray]); (try simp only [List.getElem_cons_succ]); (try simp only [List.getElem_cons_zero])
    go_simp; with_reducible rfl
  (try simp only [List.getElem_toArray]); (try simp only [List.getElem_cons_succ]); (try simp only [List.getElem_cons_zero])
  go_simp; refine hK _ ?_; clear hK K
  refine news_pure rfl ?_ ?_ (fun w0 => ?_) (fun K hK => ?_)
  · (try simp only [List.getElem_toArray]); (try simp only [List.getElem_cons_succ]); (try simp only [List.getElem_cons_zero])
    go_simp; done
  rotate_left
  · (try simp only [List.getElem_toArray]); (try simp only [List.getElem_cons_succ]); (try simp only [List.getElem_cons_zero])
    go_simp; with_reducible rfl
  (try simp only [List.getElem_toArray]); (try simp only [List.getElem_cons_succ]); (try simp only [List.getElem_cons_zero])
  go_simp; refine hK _ ?_; clear hK K
  refine news_rd rfl rfl ?_ ((fun z : World => z.cell? ⟨w.heap.size, 1, none⟩ = some (.int .i64 y))) ((fun _ _ m h => m.cell h (fun h => h))) ((cell_of HI7.out rfl)) ?_ (fun w0 h0 => ?_) (fun K hK => ?_)
  · (try simp only [List.getElem_toArray]); (try simp only [List.getElem_cons_succ]); (try simp only [List.getElem_cons_zero])
    go_simp; done
  rotate_left
  · (try simp only [List.getElem_toArray]); (try simp only [List.getElem_cons_succ]); (try simp only [List.getElem_cons_zero])
    go_simp; with_reducible rfl
  (try simp only [List.getElem_toArray]); (try simp only [List.getElem_cons_succ]); (try simp only [List.getElem_cons_zero])
  go_simp; refine hK _ ?_; clear hK K
  refine news_pure rfl ?_ ?_ (fun w0 => ?_) (fun K hK => ?_)
  · (try simp only [List.getElem_toArray]); (try simp only [List.getElem_cons_succ]); (try simp only [List.getElem_cons_zero])
    go_simp; done
  rotate_left
  · (try simp only [List.getElem_toArray]); (try simp only [List.getElem_cons_succ]); (try simp only [List.getElem_cons_zero])
    go_simp; with_reducible rfl
  (try simp only [List.getElem_toArray]); (try simp only [List.getElem_cons_succ]); (try simp only [List.getElem_cons_zero])
  go_simp; refine hK _ ?_; clear hK K
  refine news_one (newsgo_yes rfl ?_ (fun K hK => ?_))
  · (try simp only [List.getElem_toArray]); (try simp only [List.getElem_cons_succ]); (try simp only [List.getElem_cons_zero])
    go_simp; done
  obtain ⟨wj, hwj⟩ : ∃ wj : World, w7.alloc (.cells #[.string ⟨#[97]⟩, .string ⟨#[98]⟩, .string ⟨#[99]⟩, .string ⟨#[100]⟩] 9) = wj := ⟨_, rfl⟩
  have hmwj : Mod (fun _ => False) w7 wj := hwj ▸ (Mod.refl (fun _ => False) w7).alloc _
  have hgwj := heap_alloc_new w7 (.cells #[.string ⟨#[97]⟩, .string ⟨#[98]⟩, .string ⟨#[99]⟩, .string ⟨#[100]⟩] 9)
  rw [hwj] at hgwj
  have hzwj : wj.heap.size = w7.heap.size + 1 := by rw [← hwj]; simp
  go_simp
  refine hK _ _ (fun _ => ⟨hmwj.os, hmwj.tape, hmwj.output, hmwj.size, hmwj.block⟩) ?_
  clear hK K
  obtain ⟨wk, hwk⟩ : ∃ wk, wj.drew = wk := ⟨_, rfl⟩
  have hm7k : Mod (fun _ => False) w7 wk := hwk ▸ hmwj.drew
  have hkW : wk.cell? ⟨w7.heap.size, u, none⟩ = some (.string W) := hwk ▸ (cell_of_row wj w7.heap.size u _ _ _ hgwj).trans hW
  rw [hwk]
  refine news_pure rfl ?_ ?_ (fun w0 => ?_) (fun K hK => ?_)
  · (try simp only [List.getElem_toArray]); (try simp only [List.getElem_cons_succ]); (try simp only [List.getElem_cons_zero])
    go_simp; done
  rotate_left
  · (try simp only [List.getElem_toArray]); (try simp only [List.getElem_cons_succ]); (try simp only [List.getElem_cons_zero])
    go_simp; with_reducible rfl
  (try simp only [List.getElem_toArray]); (try simp only [List.getElem_cons_succ]); (try simp only [List.getElem_cons_zero])
  go_simp; refine hK _ ?_; clear hK K
  refine news_rd rfl rfl ?_ ((fun z : World => z.cell? ⟨w7.heap.size, u, none⟩ = some (.string W))) ((fun _ _ m h => m.cell h (fun h => h))) (hkW) ?_ (fun w0 h0 => ?_) (fun K hK => ?_)
  · (try simp only [List.getElem_toArray]); (try simp only [List.getElem_cons_succ]); (try simp only [List.getElem_cons_zero])
    go_simp; done
  rotate_left
  · (try simp only [List.getElem_toArray]); (try simp only [List.getElem_cons_succ]); (try simp only [List.getElem_cons_zero])
    go_simp; with_reducible rfl
  (try simp only [List.getElem_toArray]); (try simp only [List.getElem_cons_succ]); (try simp only [List.getElem_cons_zero])
  go_simp; refine hK _ ?_; clear hK K
  refine news_pure rfl ?_ ?_ (fun w0 => ?_) (fun K hK => ?_)
  · (try simp only [List.getElem_toArray]); (try simp only [List.getElem_cons_succ]); (try simp only [List.getElem_cons_zero])
    go_simp; done
  rotate_left
  · (try simp only [List.getElem_toArray]); (try simp only [List.getElem_cons_succ]); (try simp only [List.getElem_cons_zero])
    go_simp; with_reducible rfl
  (try simp only [List.getElem_toArray]); (try simp only [List.getElem_cons_succ]); (try simp only [List.getElem_cons_zero])
  go_simp; refine hK _ ?_; clear hK K
  refine news_nil ?_
  have hm0k := Hm07.out.trans hm7k (fun _ _ h => h)
  have hGk := hm7k.heap Hg7.out (fun h => h)
  have hLk := HL7.out.mod hm7k
  have hek := Hown7.out.mod hm7k (fun _ _ h => h)
  have hre := revent_at wk (.slice oa L.length oc) L hLk (by omega) t W E (by omega) ea ec Q hek.rd (by omega)
  obtain ⟨X, hX⟩ : ∃ X, seenA L t W E Q = X := ⟨_, rfl⟩
  have hXl : X.length ≤ 8 := by rw [← hX]; exact Nat.le_trans (List.length_filter_le _ _) (by omega)
  have hXr : rises X := by rw [← hX]; exact keepA_rises HQr.out
  have hXm : ∀ a ∈ X, a ∈ Q := by rw [← hX]; exact keepA_mem
  have hX2 : seenA L t W E X = X := by rw [← hX]; exact keepA_twice _ _
  have hEv : evRight X = true := evRight_of hXr hXl (fun a ha => HQ1.out a (hXm a ha))
  have hXn : ∀ a ∈ X, a.v.num < 2 ^ 64 := fun a ha => HQn.out a (hXm a ha)
  have hXs : ∀ a ∈ X, a.name.size ≤ 9223372036854775807 := fun a ha => by
    have := (right_each (HQ1.out a (hXm a ha)) (a := a) (by simp)).1
    unfold isName at this
    simp only [Bool.and_eq_true, decide_eq_true_eq] at this
    omega
  rw [hX] at hre
  have hEE : (E.toList == E.toList) = true := beq_self_eq_true _
  have hEsz : E.size ≤ 9223372036854775807 := by omega
  have hLl2 : L.length ≤ 1000000 := by omega
  have hQl2 : Q.length ≤ 1000 := by omega
  have hXl2 : X.length ≤ 1000 := by omega
  have hzk : wa.heap.size < wk.heap.size := (Array.getElem?_eq_some_iff.1 hGk).1
  have g0 : wk.cell? ⟨wa.heap.size, 0, none⟩ = some (.string E) := cell_of hGk rfl
  have g1 : wk.cell? ⟨wa.heap.size, 1, none⟩ = some (.slice ea Q.length ec) := cell_of hGk rfl
  have Hm0k := Lib.hid hm0k
  have HGk := Lib.hid hGk
  have HLk := Lib.hid hLk
  have Hek := Lib.hid hek
  have Hre := Lib.hid hre
  have HX := Lib.hid hX
  have HX2 := Lib.hid hX2
  have HEv := Lib.hid hEv
  have HXn := Lib.hid hXn
  have HXs := Lib.hid hXs
  clear hm0k hGk hLk hek hre hX hX2 hEv hXn hXs hm7k hmwj hgwj hzwj hwj hkW hW hwk ht hu hu2 hu3 hu0 HI7 Hg7 HL7 Hown7 Hm07 hXr hXm
  go_wp2_with fail
  refine Hre.out.mono ?_
  rintro e w8 ⟨xv, rfl, hownX, -, hm8⟩
  have hm08 := Hm0k.out.trans hm8 (fun _ _ h => h)
  obtain ⟨xa, xc, rfl, hxc⟩ := hownX.shape
  obtain ⟨w9, hw9⟩ : ∃ w9 : World, w8.alloc (.cells #[.string E, .slice xa X.length xc] 40) = w9 := ⟨_, rfl⟩
  have hmw9 : Mod (fun _ => False) w8 w9 := hw9 ▸ (Mod.refl (fun _ => False) w8).alloc _
  have hgw9 := heap_alloc_new w8 (.cells #[.string E, .slice xa X.length xc] 40)
  rw [hw9] at hgw9
  have hzw9 : w9.heap.size = w8.heap.size + 1 := by rw [← hw9]; simp
  have hm89 := hm8.trans hmw9 (fun _ _ h => h)
  have hm09 := Hm0k.out.trans hm89 (fun _ _ h => h)
  have hG9 := hm89.heap HGk.out (fun h => h)
  have hL9 := HLk.out.mod hm89
  have he9 := Hek.out.mod hm89 (fun _ _ h => h)
  have hx9 := hownX.mod hmw9 (fun _ _ h => h)
  have hz9 : wa.heap.size < w8.heap.size := by have := hm8.size; omega
  have Hm09 := Lib.hid hm09
  have HG9 := Lib.hid hG9
  have HL9 := Lib.hid hL9
  have He9 := Lib.hid he9
  have Hx9 := Lib.hid hx9
  have Hgw9 := Lib.hid hgw9
  have Hw9 := Lib.hid hw9
  clear hm09 hG9 hL9 he9 hx9 hgw9 hw9 hownX hm8 hm08 hm89 hmw9 hzw9 HGk HLk Hek Hre Hm0k g0 g1
  go_wp2_with (first | ((with_reducible refine wpList_store_lit 40 (.tmp 9) (.tmp 47) ?_); refine ⟨rfl, [.string E, .slice xa X.length xc], rfl, rfl, by kernel_rfl, rfl, ?_⟩; rw [Hw9.out]) | fail)
  refine wp_region_news2 [.rd 0, .rd 1, .rd 2, .rd 3, .rd 4, .go 5, .go 6, .go 7, .rd 8, .go 9, .go 10, .go 11, .rd 12, .rd 13, .rd 14, .rd 15, .rd 17, .go 16, .go 18, .go 19, .go 20] [0, 1, 2, 3, 4, 5, 6, 7, 8, 9, 10, 11, 12, 13, 14, 15, 16, 17, 18, 19] (by kernel_rfl) (by kernel_rfl) (fun _ _ d _ _ h => (by cases d <;> exact h)) ?_
  refine news_rd rfl rfl ?_ ((fun y : World => y.heap[w8.heap.size]? = some (.cells #[.string E, .slice xa X.length xc] 40 (0, 0)))) ((fun _ _ m h => m.heap h (fun h => h))) (heap_drew_ Hgw9.out) ?_ (fun w0 h0 => ?_) (fun K hK => ?_)
  · (try simp only [List.getElem_toArray]); (try simp only [List.getElem_cons_succ]); (try simp only [List.getElem_cons_zero])
    go_simp; done
  rotate_left
  · (try simp only [List.getElem_toArray]); (try simp only [List.getElem_cons_succ]); (try simp only [List.getElem_cons_zero])
    have f0 := cell_of (j := 0) h0 rfl; have f1 := cell_of (j := 1) h0 rfl; clear h0; go_simp; with_reducible rfl
  (try simp only [List.getElem_toArray]); (try simp only [List.getElem_cons_succ]); (try simp only [List.getElem_cons_zero])
  go_simp; refine hK _ ?_; clear hK K
  refine news_pure rfl ?_ ?_ (fun w0 => ?_) (fun K hK => ?_)
  · (try simp only [List.getElem_toArray]); (try simp only [List.getElem_cons_succ]); (try simp only [List.getElem_cons_zero])
    go_simp; done
  rotate_left
  · (try simp only [List.getElem_toArray]); (try simp only [List.getElem_cons_succ]); (try simp only [List.getElem_cons_zero])
    go_simp; with_reducible rfl
  (try simp only [List.getElem_toArray]); (try simp only [List.getElem_cons_succ]); (try simp only [List.getElem_cons_zero])
  go_simp; refine hK _ ?_; clear hK K
  refine news_pure rfl ?_ ?_ (fun w0 => ?_) (fun K hK => ?_)
  · (try simp only [List.getElem_toArray]); (try simp only [List.getElem_cons_succ]); (try simp only [List.getElem_cons_zero])
    go_simp; done
  rotate_left
  · (try simp only [List.getElem_toArray]); (try simp only [List.getElem_cons_succ]); (try simp only [List.getElem_cons_zero])
    go_simp; with_reducible rfl
  (try simp only [List.getElem_toArray]); (try simp only [List.getElem_cons_succ]); (try simp only [List.getElem_cons_zero])
  go_simp; refine hK _ ?_; clear hK K
  refine news_pure rfl ?_ ?_ (fun w0 => ?_) (fun K hK => ?_)
  · (try simp only [List.getElem_toArray]); (try simp only [List.getElem_cons_succ]); (try simp only [List.getElem_cons_zero])
    go_simp; done
  rotate_left
  · (try simp only [List.getElem_toArray]); (try simp only [List.getElem_cons_succ]); (try simp only [List.getElem_cons_zero])
    go_simp; with_reducible rfl
  (try simp only [List.getElem_toArray]); (try simp only [List.getElem_cons_succ]); (try simp only [List.getElem_cons_zero])
  go_simp; refine hK _ ?_; clear hK K
  refine news_rd rfl rfl ?_ ((fun y : World => y.heap[wa.heap.size]? = some (.cells #[.string E, .slice ea Q.length ec] 40 (0, 0)))) ((fun _ _ m h => m.heap h (fun h => h))) (heap_drew_ HG9.out) ?_ (fun w0 h0 => ?_) (fun K hK => ?_)
  · (try simp only [List.getElem_toArray]); (try simp only [List.getElem_cons_succ]); (try simp only [List.getElem_cons_zero])
    go_simp; done
  rotate_left
  · (try simp only [List.getElem_toArray]); (try simp only [List.getElem_cons_succ]); (try simp only [List.getElem_cons_zero])
    have f0 := cell_of (j := 0) h0 rfl; have f1 := cell_of (j := 1) h0 rfl; clear h0; go_simp; with_reducible rfl
  (try simp only [List.getElem_toArray]); (try simp only [List.getElem_cons_succ]); (try simp only [List.getElem_cons_zero])
  go_simp; refine hK _ ?_; clear hK K
  have hmd : Mod (fun _ => False) w9 w9.drew := (Mod.refl _ _).drew
  refine news_one (newsgo_yes rfl ?_ (fun K hK => ?_))
  · (try simp only [List.getElem_toArray]); (try simp only [List.getElem_cons_succ]); (try simp only [List.getElem_cons_zero])
    go_simp; done
  go_wp2_with fail
  have hp1 := rseen_at w9.drew (.slice oa L.length oc) L (HL9.out.mod hmd) hLl2 t W E hEsz ea ec Q (He9.out.mod hmd (fun _ _ h => h)).rd hQl2
  rw [HX.out] at hp1
  refine hp1.mono ?_
  rintro e wA ⟨sv, rfl, hownS, -, hmA⟩
  obtain ⟨sa, sc, rfl, -⟩ := hownS.shape
  have hbA : Mod (fun _ => False) w9 wA := hmd.trans hmA (fun _ _ h => h)
  refine hK _ _ (fun _ => hmA) ?_
  clear hK K hp1
  have hxA := (Hx9.out.mod hbA (fun _ _ h => h)).rd
  refine news_one (newsgo_yes rfl ?_ (fun K hK => ?_))
  · (try simp only [List.getElem_toArray]); (try simp only [List.getElem_cons_succ]); (try simp only [List.getElem_cons_zero])
    go_simp; done
  go_wp2_with fail
  have hp2 := evsame_at wA E E (.slice xa X.length xc) (.slice sa X.length sc) X X hxA hownS.rd (by omega) (by omega) HXn.out HXn.out
  rw [attsSame_self, hEE, Bool.and_true] at hp2
  refine hp2.mono ?_
  rintro e wB ⟨rfl, hmB⟩
  have hbB := hbA.trans hmB (fun _ _ h => h)
  refine hK _ _ (fun _ => hmB) ?_
  clear hK K hp2
  refine news_one (newsgo_yes rfl ?_ (fun K hK => ?_))
  · (try simp only [List.getElem_toArray]); (try simp only [List.getElem_cons_succ]); (try simp only [List.getElem_cons_zero])
    go_simp; done
  (try simp only [List.getElem_toArray]); (try simp only [List.getElem_cons_succ]); (try simp only [List.getElem_cons_zero])
  go_simp
  refine hK _ _ (fun _ => Mod.refl _ _) ?_
  clear hK K
  refine news_rd rfl rfl ?_ ((fun y : World => y.heap[w8.heap.size]? = some (.cells #[.string E, .slice xa X.length xc] 40 (0, 0)))) ((fun _ _ m h => m.heap h (fun h => h))) (hbB.heap Hgw9.out (fun h => h)) ?_ (fun w0 h0 => ?_) (fun K hK => ?_)
  · (try simp only [List.getElem_toArray]); (try simp only [List.getElem_cons_succ]); (try simp only [List.getElem_cons_zero])
    go_simp; done
  rotate_left
  · (try simp only [List.getElem_toArray]); (try simp only [List.getElem_cons_succ]); (try simp only [List.getElem_cons_zero])
    have f0 := cell_of (j := 0) h0 rfl; have f1 := cell_of (j := 1) h0 rfl; clear h0; go_simp; with_reducible rfl
  (try simp only [List.getElem_toArray]); (try simp only [List.getElem_cons_succ]); (try simp only [List.getElem_cons_zero])
  go_simp; refine hK _ ?_; clear hK K
  refine news_one (newsgo_yes rfl ?_ (fun K hK => ?_))
  · (try simp only [List.getElem_toArray]); (try simp only [List.getElem_cons_succ]); (try simp only [List.getElem_cons_zero])
    go_simp; done
  go_wp2_with fail
  have hp3 := right_at E (.slice xa X.length xc) X wB (Hx9.out.mod hbB (fun _ _ h => h)).rd (by omega) HXs.out
  rw [HEv.out] at hp3
  refine hp3.mono ?_
  rintro e wC ⟨rfl, hmC⟩
  have hbC := hbB.trans hmC (fun _ _ h => h)
  refine hK _ _ (fun _ => hmC) ?_
  clear hK K hp3
  refine news_one (newsgo_yes rfl ?_ (fun K hK => ?_))
  · (try simp only [List.getElem_toArray]); (try simp only [List.getElem_cons_succ]); (try simp only [List.getElem_cons_zero])
    go_simp; done
  (try simp only [List.getElem_toArray]); (try simp only [List.getElem_cons_succ]); (try simp only [List.getElem_cons_zero])
  go_simp
  refine hK _ _ (fun _ => Mod.refl _ _) ?_
  clear hK K
  refine news_one (newsgo_yes rfl ?_ (fun K hK => ?_))
  · (try simp only [List.getElem_toArray]); (try simp only [List.getElem_cons_succ]); (try simp only [List.getElem_cons_zero])
    go_simp; done
  (try simp only [List.getElem_toArray]); (try simp only [List.getElem_cons_succ]); (try simp only [List.getElem_cons_zero])
  go_simp
  refine hK _ _ (fun _ => Mod.refl _ _) ?_
  clear hK K
  refine news_pure rfl ?_ ?_ (fun w0 => ?_) (fun K hK => ?_)
  · (try simp only [List.getElem_toArray]); (try simp only [List.getElem_cons_succ]); (try simp only [List.getElem_cons_zero])
    go_simp; done
  rotate_left
  · (try simp only [List.getElem_toArray]); (try simp only [List.getElem_cons_succ]); (try simp only [List.getElem_cons_zero])
    go_simp; with_reducible rfl
  (try simp only [List.getElem_toArray]); (try simp only [List.getElem_cons_succ]); (try simp only [List.getElem_cons_zero])
  go_simp; refine hK _ ?_; clear hK K
  refine news_pure rfl ?_ ?_ (fun w0 => ?_) (fun K hK => ?_)
  · (try simp only [List.getElem_toArray]); (try simp only [List.getElem_cons_succ]); (try simp only [List.getElem_cons_zero])
    go_simp; done
  rotate_left
  · (try simp only [List.getElem_toArray]); (try simp only [List.getElem_cons_succ]); (try simp only [List.getElem_cons_zero])
    go_simp; with_reducible rfl
  (try simp only [List.getElem_toArray]); (try simp only [List.getElem_cons_succ]); (try simp only [List.getElem_cons_zero])
  go_simp; refine hK _ ?_; clear hK K
  refine news_pure rfl ?_ ?_ (fun w0 => ?_) (fun K hK => ?_)
  · (try simp only [List.getElem_toArray]); (try simp only [List.getElem_cons_succ]); (try simp only [List.getElem_cons_zero])
    go_simp; done
  rotate_left
  · (try simp only [List.getElem_toArray]); (try simp only [List.getElem_cons_succ]); (try simp only [List.getElem_cons_zero])
    go_simp; with_reducible rfl
  (try simp only [List.getElem_toArray]); (try simp only [List.getElem_cons_succ]); (try simp only [List.getElem_cons_zero])
  go_simp; refine hK _ ?_; clear hK K
  refine news_rd rfl rfl ?_ ((fun y : World => y.heap[w8.heap.size]? = some (.cells #[.string E, .slice xa X.length xc] 40 (0, 0)))) ((fun _ _ m h => m.heap h (fun h => h))) (hbC.heap Hgw9.out (fun h => h)) ?_ (fun w0 h0 => ?_) (fun K hK => ?_)
  · (try simp only [List.getElem_toArray]); (try simp only [List.getElem_cons_succ]); (try simp only [List.getElem_cons_zero])
    go_simp; done
  rotate_left
  · (try simp only [List.getElem_toArray]); (try simp only [List.getElem_cons_succ]); (try simp only [List.getElem_cons_zero])
    have f0 := cell_of (j := 0) h0 rfl; have f1 := cell_of (j := 1) h0 rfl; clear h0; go_simp; with_reducible rfl
  (try simp only [List.getElem_toArray]); (try simp only [List.getElem_cons_succ]); (try simp only [List.getElem_cons_zero])
  go_simp; refine hK _ ?_; clear hK K
  refine news_rd rfl rfl ?_ ((fun y : World => y.heap[w8.heap.size]? = some (.cells #[.string E, .slice xa X.length xc] 40 (0, 0)))) ((fun _ _ m h => m.heap h (fun h => h))) (hbC.heap Hgw9.out (fun h => h)) ?_ (fun w0 h0 => ?_) (fun K hK => ?_)
  · (try simp only [List.getElem_toArray]); (try simp only [List.getElem_cons_succ]); (try simp only [List.getElem_cons_zero])
    go_simp; done
  rotate_left
  · (try simp only [List.getElem_toArray]); (try simp only [List.getElem_cons_succ]); (try simp only [List.getElem_cons_zero])
    have f0 := cell_of (j := 0) h0 rfl; have f1 := cell_of (j := 1) h0 rfl; clear h0; go_simp; with_reducible rfl
  (try simp only [List.getElem_toArray]); (try simp only [List.getElem_cons_succ]); (try simp only [List.getElem_cons_zero])
  go_simp; refine hK _ ?_; clear hK K
  refine news_one (newsgo_yes rfl ?_ (fun K hK => ?_))
  · (try simp only [List.getElem_toArray]); (try simp only [List.getElem_cons_succ]); (try simp only [List.getElem_cons_zero])
    go_simp; done
  go_wp2_with fail
  have hp4 := revent_at wC (.slice oa L.length oc) L (HL9.out.mod hbC) hLl2 t W E hEsz xa xc X (Hx9.out.mod hbC (fun _ _ h => h)).rd hXl2
  rw [HX2.out] at hp4
  refine hp4.mono ?_
  rintro e wD ⟨zv, rfl, hownZ, -, hmD⟩
  obtain ⟨za, zc, rfl, -⟩ := hownZ.shape
  have hbD := hbC.trans hmD (fun _ _ h => h)
  refine hK _ _ (fun _ => hmD) ?_
  clear hK K hp4
  refine news_one (newsgo_yes rfl ?_ (fun K hK => ?_))
  · (try simp only [List.getElem_toArray]); (try simp only [List.getElem_cons_succ]); (try simp only [List.getElem_cons_zero])
    go_simp; done
  go_wp2_with fail
  have hp5 := evsame_at wD E E (.slice za X.length zc) (.slice xa X.length xc) X X hownZ.rd (Hx9.out.mod hbD (fun _ _ h => h)).rd (by omega) (by omega) HXn.out HXn.out
  rw [attsSame_self, hEE, Bool.and_true] at hp5
  refine hp5.mono ?_
  rintro e wE ⟨rfl, hmE⟩
  have hbE := Hm09.out.trans (hbD.trans hmE (fun _ _ h => h)) (fun _ _ h => h)
  refine hK _ _ (fun _ => hmE) ?_
  clear hK K hp5
  have HbE := Lib.hid hbE
  clear hbA hbB hbC hbD hbE hmA hmB hmC hmD hmE hmd hownS hownZ hxA
  refine news_one (newsgo_yes rfl ?_ (fun K hK => ?_))
  · (try simp only [List.getElem_toArray]); (try simp only [List.getElem_cons_succ]); (try simp only [List.getElem_cons_zero])
    go_simp; done
  (try simp only [List.getElem_toArray]); (try simp only [List.getElem_cons_succ]); (try simp only [List.getElem_cons_zero])
  go_simp
  refine hK _ _ (fun _ => Mod.refl _ _) ?_
  clear hK K
  refine news_one (newsgo_yes rfl ?_ (fun K hK => ?_))
  · (try simp only [List.getElem_toArray]); (try simp only [List.getElem_cons_succ]); (try simp only [List.getElem_cons_zero])
    go_simp; done
  (try simp only [List.getElem_toArray]); (try simp only [List.getElem_cons_succ]); (try simp only [List.getElem_cons_zero])
  go_simp
  refine hK _ _ (fun h => absurd h (by decide)) ?_
  clear hK K
  refine news_nil ?_
  go_wp2
  go_ret
  exact ⟨rfl, HbE.out⟩
end Go.Proofs.Ytpfnemkfbelpcaa
