/-
  RedactLess: what a principal may see is never more than there is; a filter that has it has the whole event.
-/
import Derived.Test.YtpfnemkfbelpcaaFit11
import Derived.Test.YtpfnemkfbelpcaaPubm
namespace Go.Proofs.Ytpfnemkfbelpcaa
set_option maxRecDepth 20000
open Go.RowKit

theorem keepA_sub (H : List (List UInt8)) (Q : List Att) : ∀ a ∈ keepA H Q, a ∈ Q := fun _ ha => (List.mem_filter.1 ha).1
theorem keepA_take {H : List (List UInt8)} {Q : List Att} {j : Nat} {x : Att} (h : Q[j]? = some x) :
    keepA H (Q.take (j + 1)) = keepA H (Q.take j) ++ (if (!decide (x.name.data.toList ∈ H)) = true then [x] else []) := keep_snoc (fun a : Att => !decide (a.name.data.toList ∈ H)) h
theorem keepA_split (H : List (List UInt8)) (Q : List Att) (j : Nat) : keepA H Q = keepA H (Q.take j) ++ keepA H (Q.drop j) := by
  unfold keepA
  rw [← List.filter_append, List.take_append_drop]
/-- What is kept comes next. -/
theorem keepA_next {H : List (List UInt8)} {Q : List Att} {j : Nat} {x : Att} (h : Q[j]? = some x) (hp : decide (x.name.data.toList ∈ H) = false) : (keepA H Q)[(keepA H (Q.take j)).length]? = some x := by
  have h1 := keepA_take (H := H) h
  rw [hp] at h1
  rw [keepA_split H Q (j + 1), h1]
  simp
/-- What isn't kept isn't what comes next: names differ. -/
theorem keepA_other {H : List (List UInt8)} {Q : List Att} {j : Nat} {x y : Att} (hp : decide (x.name.data.toList ∈ H) = true)
    (hy : (keepA H Q)[(keepA H (Q.take j)).length]? = some y) : (y.name.toList == x.name.toList) = false := by
  cases he : y.name.toList == x.name.toList with
  | false => rfl
  | true =>
    exfalso
    have hym := List.mem_of_getElem? hy
    obtain ⟨hyQ, hyk⟩ := List.mem_filter.1 hym
    have hyx : y.name = x.name := (Lib.bytes_beq_iff _ _).1 he
    rw [hyx, hp] at hyk
    cases hyk
theorem rMatchC_sub {c : Cnd} {H : List (List UInt8)} {Q : List Att} (h : rMatchC c (keepA H Q) = true) : rMatchC c Q = true := by
  unfold rMatchC at *
  obtain ⟨a, ha, h⟩ := List.any_eq_true.1 h
  exact List.any_eq_true.2 ⟨a, keepA_sub H Q a ha, h⟩

set_option maxHeartbeats 8000000 in
theorem less_walk (w : World) (v : Value) (l : List Ru) (hv : RuSl w v l) (hll : l.length ≤ 9223372036854775807) (es : ByteArray) (av : Value) (q : List Att) (hq : RdSl w 6 av q.length (atts q)) (hql : q.length ≤ 9223372036854775807) (hes : es.size ≤ 9223372036854775807)
    (hqn : ∀ a ∈ q, a.name.size ≤ 9223372036854775807) (fs : ByteArray) (fv : Value) (m : List Cnd) (hf : RdSl w 7 fv m.length (cnds m)) (hml : m.length ≤ 9223372036854775807) (hfs : fs.size ≤ 9223372036854775807) (hmt : ∀ c ∈ m, c.v.text.size ≤ 9223372036854775807) :
    Calls Try.prog 4 #[v, .agg #[.string es, av], .agg #[.string fs, fv]] w fun e w' => e = .returned (.bool true) ∧ Mod (fun _ => False) w w' := by
  obtain ⟨qa, qc, rfl, hqc⟩ : ∃ a c, av = .slice a q.length c ∧ q.length ≤ c := by obtain ⟨-, a, c, h, h2, -⟩ := hq; exact ⟨a, c, h, h2⟩
  obtain ⟨fa, fc, rfl, hfc⟩ : ∃ a c, fv = .slice a m.length c ∧ m.length ≤ c := by obtain ⟨-, a, c, h, h2, -⟩ := hf; exact ⟨a, c, h, h2⟩
  have hes' : (es.size : Int) ≤ 9223372036854775807 := by omega
  have hql' : (q.length : Int) ≤ 9223372036854775807 := by omega
  obtain ⟨wa, hwa⟩ : ∃ wa : World, w.alloc (.cells #[.string es, .slice qa q.length qc] 40) = wa := ⟨_, rfl⟩
  have hmwa : Mod (fun _ => False) w wa := hwa ▸ (Mod.refl (fun _ => False) w).alloc _
  have hgwa := heap_alloc_new w (.cells #[.string es, .slice qa q.length qc] 40)
  rw [hwa] at hgwa
  have hzwa : wa.heap.size = w.heap.size + 1 := by rw [← hwa]; simp
  obtain ⟨wb, hwb⟩ : ∃ wb : World, wa.alloc (.cells #[.string fs, .slice fa m.length fc] 33) = wb := ⟨_, rfl⟩
  have hmwb : Mod (fun _ => False) wa wb := hwb ▸ (Mod.refl (fun _ => False) wa).alloc _
  have hgwb := heap_alloc_new wa (.cells #[.string fs, .slice fa m.length fc] 33)
  rw [hwb] at hgwb
  have hzwb : wb.heap.size = wa.heap.size + 1 := by rw [← hwb]; simp
  have hmb := hmwa.trans hmwb (fun _ _ h => h)
  have hE := hmwb.heap hgwa (fun h => h)
  have hft := fit11_at wb
  have hlz : w.heap.size < wa.heap.size := by omega
  have Hwa := Lib.hid hwa
  have Hwb := Lib.hid hwb
  have Hmb := Lib.hid hmb
  have HE := Lib.hid hE
  have Hgwb := Lib.hid hgwb
  have Hft := Lib.hid hft
  have Hv := Lib.hid hv
  have Hq := Lib.hid hq
  have Hf := Lib.hid hf
  have Hqn := Lib.hid hqn
  have Hll := Lib.hid hll
  have Hql := Lib.hid hql
  have Hes := Lib.hid hes
  have Hfs := Lib.hid hfs
  have Hml := Lib.hid hml
  have Hmt := Lib.hid hmt
  clear hwa hwb hmb hE hgwb hft hv hq hf hqn hll hql hes hfs hml hmt hmwa hmwb hgwa hzwa hzwb
  go_enter Try.func4, Try.ntmps4
  go_wp2_with (first | (rw [show w.alloc _ = wa from Hwa.out]) | (rw [show wa.alloc _ = wb from Hwb.out]) | fail)
  refine Hft.out.mono ?_
  rintro e w1 ⟨rfl, hm1⟩
  have hm01 := Hmb.out.trans hm1 (fun _ _ h => h)
  have hE1 := hm1.heap HE.out (fun h => h)
  have hF1 := hm1.heap Hgwb.out (fun h => h)
  have hli := light10_at w1 v l (Hv.out.mod hm01) Hll.out
  have Hm01 := Lib.hid hm01
  have HE1 := Lib.hid hE1
  have HF1 := Lib.hid hF1
  have Hli := Lib.hid hli
  clear hm01 hE1 hF1 hli hm1 Hft HE Hgwb Hmb
  go_wp2_with fail
  refine Hli.out.mono ?_
  rintro e w2 ⟨b, rfl, hb, hm2⟩
  have hm02 := Hm01.out.trans hm2 (fun _ _ h => h)
  have hE2 := hm2.heap HE1.out (fun h => h)
  have hF2 := hm2.heap HF1.out (fun h => h)
  cases b with
  | false =>
    have Hm02 := Lib.hid hm02
    clear hm02 hm2 hE2 hF2 hb
    go_wp2
    go_ret
    exact ⟨rfl, Hm02.out⟩
  | true =>
  have hl80 := hb rfl
  have hlf := light07_at w2 fs (.slice fa m.length fc) m (Hf.out.mod hm02 (fun _ _ h => h)) Hml.out
  have Hm02 := Lib.hid hm02
  have HE2 := Lib.hid hE2
  have HF2 := Lib.hid hF2
  have Hlf := Lib.hid hlf
  clear hm02 hE2 hF2 hlf hm2 hb HE1 HF1 Hli Hm01
  have g0 : w2.cell? ⟨w.heap.size, 0, none⟩ = some (.string es) := cell_of HE2.out rfl
  have g1 : w2.cell? ⟨w.heap.size, 1, none⟩ = some (.slice qa q.length qc) := cell_of HE2.out rfl
  have k0 : w2.cell? ⟨wa.heap.size, 0, none⟩ = some (.string fs) := cell_of HF2.out rfl
  have k1 : w2.cell? ⟨wa.heap.size, 1, none⟩ = some (.slice fa m.length fc) := cell_of HF2.out rfl
  by_cases hs60 : es.size ≤ 60
  rotate_left
  · have hs60' : (60 : Int) < es.size := by omega
    go_wp2
    go_ret
    exact ⟨rfl, Hm02.out⟩
  have hs60' : (es.size : Int) ≤ 60 := by omega
  by_cases hq20 : q.length ≤ 20
  rotate_left
  · have hq20' : (20 : Int) < q.length := by omega
    go_wp2
    go_ret
    exact ⟨rfl, Hm02.out⟩
  have hq20' : (q.length : Int) ≤ 20 := by omega
  go_wp2_with fail
  refine Hlf.out.mono ?_
  rintro e w3 ⟨b, rfl, hm3⟩
  have hm03 := Hm02.out.trans hm3 (fun _ _ h => h)
  have hE3 := hm3.heap HE2.out (fun h => h)
  have hF3 := hm3.heap HF2.out (fun h => h)
  have hri := rights_at w3 v l (Hv.out.mod hm03) (by omega)
  have Hm03 := Lib.hid hm03
  have HE3 := Lib.hid hE3
  have HF3 := Lib.hid hF3
  have Hri := Lib.hid hri
  clear hm03 hE3 hF3 hri hm3 HE2 HF2 Hlf Hm02 g0 g1 k0 k1
  cases b with
  | false =>
    go_wp2
    go_ret
    exact ⟨rfl, Hm03.out⟩
  | true =>
  go_wp2_with fail
  refine Hri.out.mono ?_
  rintro e w5 ⟨ov, rfl, hown, hfrL, hm5⟩
  have hwa2 := (Array.getElem?_eq_some_iff.1 HE3.out).1
  have hm05 := Hm03.out.trans hm5 (fun _ _ h => h)
  have hE5 := hm5.heap HE3.out (fun h => h)
  have hF5 := hm5.heap HF3.out (fun h => h)
  have hL := rights_sl Hv.out hown hm05
  have hLl : (l.filter Ru.rightB).length ≤ 80 := Nat.le_trans (List.length_filter_le _ _) hl80
  obtain ⟨L, hLL⟩ : ∃ L, l.filter Ru.rightB = L := ⟨_, rfl⟩
  have HLL := Lib.hid hLL
  rw [hLL] at hown hL hLl
  obtain ⟨oa, oc, rfl, -⟩ := hown.shape
  have hnL : ∀ b, (Value.slice oa L.length oc).ownBlock = some b → b ≠ w.heap.size := fun b hb => by have := hfrL b hb; omega
  have HownL := Lib.hid hown
  have hev := ev7_at w5 es (.slice qa q.length qc) q (Hq.out.mod hm05 (fun _ _ h => h)) (by omega) Hes.out (newL_mem q fun a ha => Hqn.out a ha)
  have Hm05 := Lib.hid hm05
  have HE5 := Lib.hid hE5
  have HF5 := Lib.hid hF5
  have Hev := Lib.hid hev
  have HnL := Lib.hid hnL
  clear hm05 hE5 hF5 hev hnL hm5 hown hL hfrL hwa2 hLL HE3 HF3 Hri Hm03 hl80
  have g0 : w5.cell? ⟨w.heap.size, 0, none⟩ = some (.string es) := cell_of HE5.out rfl
  have g1 : w5.cell? ⟨w.heap.size, 1, none⟩ = some (.slice qa q.length qc) := cell_of HE5.out rfl
  go_wp2_with fail
  refine Hev.out.mono ?_
  rintro e w6 ⟨ev, rfl, hown, hfr, hm6⟩
  have hm06 := Hm05.out.trans hm6 (fun _ _ h => h)
  have hE6 := hm6.heap HE5.out (fun h => h)
  have hF6 := hm6.heap HF5.out (fun h => h)
  have hownL6 := HownL.out.mod hm6 (fun _ _ h => h)
  obtain ⟨ea, ec, rfl, -⟩ := hown.shape
  have hEs := ev7S_size es
  have hQ8 := ev7L_le q
  have hQr := ev7L_rises q
  have hQt := ev7L_text (l := q)
  obtain ⟨E, hEE⟩ : ∃ E, ev7S es = E := ⟨_, rfl⟩
  obtain ⟨Q, hQ⟩ : ∃ Q, ev7L q = Q := ⟨_, rfl⟩
  rw [hQ] at hown hfr hQ8 hQr hQt
  rw [hEE] at hEs
  rw [hEE, hQ]
  have hn6 : ∀ b, (Value.slice ea Q.length ec).ownBlock = some b → b ≠ w.heap.size := fun b hb => by
    have := hfr b hb
    have := (Array.getElem?_eq_some_iff.1 HE5.out).1
    omega
  have hz0 := Hm05.out.size
  have Hm06 := Lib.hid hm06
  have HE6 := Lib.hid hE6
  have HF6 := Lib.hid hF6
  have HownL6 := Lib.hid hownL6
  have Hown := Lib.hid hown
  have Hn6 := Lib.hid hn6
  have HQr := Lib.hid hQr
  have HQt := Lib.hid hQt
  clear hm06 hE6 hF6 hownL6 hown hn6 hQr hQt hm6 hEE hQ HE5 HF5 Hev Hm05 hfr g0 g1
  go_wp2_with (first | ((with_reducible refine wpList_store_row_lit 40 (.tmp 4) (.tmp 39) ?_); refine ⟨w.heap.size, rfl, _, _, HE6.out, [.string E, .slice ea Q.length ec], rfl, rfl, by kernel_rfl, rfl, ?_⟩; intro w7 hg7 hm7; have g0 : w7.cell? ⟨w.heap.size, 0, none⟩ = some (.string E) := cell_of hg7 rfl; have g1 : w7.cell? ⟨w.heap.size, 1, none⟩ = some (.slice ea Q.length ec) := cell_of hg7 rfl; have Hg7 := Lib.hid hg7; have Hm7 := Lib.hid hm7; clear hg7 hm7) | fail)
  have hm07 : Mod (fun _ => False) w w7 := Hm06.out.upon Hm7.out (fun b hb => .inr (by omega))
  have hownL7 := HownL6.out.mod Hm7.out HnL.out
  rw [← HLL.out] at hownL7
  have hL7 := rights_sl Hv.out hownL7 hm07
  rw [HLL.out] at hL7
  have hF7 := Hm7.out.heap HF6.out (by omega)
  have hown7 := Hown.out.mod Hm7.out Hn6.out
  have hre := revent_at w7 (.slice oa L.length oc) L hL7 (by omega) 0 ⟨#[97]⟩ E (by omega) ea ec Q hown7.rd (by omega)
  obtain ⟨H, hH⟩ : ∃ H, hidL (hidR L 0 ⟨#[97]⟩ E) = H := ⟨_, rfl⟩
  unfold seenA at hre
  rw [hH] at hre
  have hXl : (keepA H Q).length ≤ Q.length := List.length_filter_le _ _
  obtain ⟨X, hX⟩ : ∃ X, keepA H Q = X := ⟨_, rfl⟩
  rw [hX] at hre hXl
  have Hm07 := Lib.hid hm07
  have HF7 := Lib.hid hF7
  have Hown7 := Lib.hid hown7
  have Hre := Lib.hid hre
  have HX := Lib.hid hX
  clear hm07 hF7 hown7 hre hX hownL7 hL7 HF6 HE6 Hown Hm06 HownL HownL6 hH HLL HnL Hn6
  go_wp2_with fail
  refine Hre.out.mono ?_
  rintro e w8 ⟨xv, rfl, hownX, hfrX, hm8⟩
  obtain ⟨xa, xc, rfl, hxc⟩ := hownX.shape
  obtain ⟨w9, hw9⟩ : ∃ w9 : World, w8.alloc (.cells #[.string E, .slice xa X.length xc] 40) = w9 := ⟨_, rfl⟩
  have hmw9 : Mod (fun _ => False) w8 w9 := hw9 ▸ (Mod.refl (fun _ => False) w8).alloc _
  have hgw9 := heap_alloc_new w8 (.cells #[.string E, .slice xa X.length xc] 40)
  rw [hw9] at hgw9
  have hzw9 : w9.heap.size = w8.heap.size + 1 := by rw [← hw9]; simp
  have hm79 := hm8.trans hmw9 (fun _ _ h => h)
  have hm09 := Hm07.out.trans hm79 (fun _ _ h => h)
  have hE9 := hm79.heap Hg7.out (fun h => h)
  have hF9 := hm79.heap HF7.out (fun h => h)
  have hown9 := Hown7.out.mod hm79 (fun _ _ h => h)
  have hownX9 := hownX.mod hmw9 (fun _ _ h => h)
  have hXl' : (X.length : Int) ≤ 8 := by omega
  have hQl' : (Q.length : Int) ≤ 8 := by omega
  have hz8 : wa.heap.size < w8.heap.size := by
    have h1 := (Array.getElem?_eq_some_iff.1 HF7.out).1
    have h2 := hm8.size
    omega
  have e1 : w9.cell? ⟨w.heap.size, 1, none⟩ = some (.slice ea Q.length ec) := cell_of hE9 rfl
  have Hm09 := Lib.hid hm09
  have HE9 := Lib.hid hE9
  have HF9 := Lib.hid hF9
  have Hown9 := Lib.hid hown9
  have HownX9 := Lib.hid hownX9
  have Hgw9 := Lib.hid hgw9
  have Hw9 := Lib.hid hw9
  clear hm09 hE9 hF9 hown9 hownX9 hgw9 hw9 hownX hfrX hm8 hm79 hmw9 hzw9 Hg7 HF7 Hown7 Hre Hm07 Hm7 g0 g1
  go_wp2_with (first | ((with_reducible refine wpList_store_lit 40 (.tmp 7) (.tmp 42) ?_); refine ⟨rfl, [.string E, .slice xa X.length xc], rfl, rfl, by kernel_rfl, rfl, ?_⟩; rw [Hw9.out]) | fail)
  clear e1
  go_loopw [8, 46] (fun nv iv wr => ∃ j n : Nat, iv = .int .i64 j ∧ j ≤ Q.length ∧ nv = .int .i64 n ∧ n = (keepA H (Q.take j)).length ∧ Mod (fun _ => False) w9 wr) (fun _ i _ => Q.length - (intOf i).toNat)
  case atStart => exact ⟨0, 0, rfl, Nat.zero_le _, rfl, rfl, Mod.refl _ _⟩
  case round =>
    obtain ⟨j, n, rfl, hj, rfl, hn, hmr⟩ := hrel
    by_cases hlt : j < Q.length
    · have hlt' : (j : Int) < Q.length := by omega
      obtain ⟨x, hxj⟩ : ∃ x, Q[j]? = some x := ⟨_, List.getElem?_eq_getElem hlt⟩
      obtain ⟨g, off, rfl, hfc⟩ : ∃ g off, ea = some ⟨g, off, none⟩ ∧ CellsAt wr g (off + j * 6) x.cells := rd_att (Hown9.out.mod hmr (fun _ _ h => h)).rd hxj
      have hnx := keepA_take (H := H) hxj
      have hnext := keepA_next (H := H) hxj
      have hother : decide (x.name.data.toList ∈ H) = true → ∀ y, (keepA H Q)[(keepA H (Q.take j)).length]? = some y → (y.name.toList == x.name.toList) = false := fun hp y hy => keepA_other hp hy
      have hn8 : n ≤ j := by rw [hn]; exact Nat.le_trans (List.length_filter_le _ _) (List.length_take_le _ _)
      rw [← hn, HX.out] at hnext hother
      obtain ⟨wz, hwz⟩ : ∃ wz : World, wr.alloc (.cells x.cells.toArray 48) = wz := ⟨_, rfl⟩
      have hmwz : Mod (fun _ => False) wr wz := hwz ▸ (Mod.refl (fun _ => False) wr).alloc _
      have hgwz := heap_alloc_new wr (.cells x.cells.toArray 48)
      rw [hwz] at hgwz
      have hzwz : wz.heap.size = wr.heap.size + 1 := by rw [← hwz]; simp
      have hmz := hmr.trans hmwz (fun _ _ h => h)
      have hgx := hmz.heap Hgw9.out (fun h => h)
      have hxr := (HownX9.out.mod hmz (fun _ _ h => h)).rd
      have hn8' : (n : Int) ≤ j := by omega
      obtain ⟨B, hB⟩ : ∃ B, decide (x.name.data.toList ∈ H) = B := ⟨_, rfl⟩
      rw [hB] at hnx hnext hother
      have hnj : (keepA H (Q.take (j + 1))).length = n + (if (!B) = true then 1 else 0) := by rw [hnx, List.length_append, ← hn]; split <;> rfl
      have Hfc := Lib.hid hfc
      have Hwz := Lib.hid hwz
      have Hgwz := Lib.hid hgwz
      have Hmz := Lib.hid hmz
      have Hgx := Lib.hid hgx
      have Hxr := Lib.hid hxr
      have Hnj := Lib.hid hnj
      have Hnext := Lib.hid hnext
      have Hother := Lib.hid hother
      clear hfc hwz hgwz hmz hgx hxr hnj hnext hother hmwz hmr hzwz hn hnx hB hxj
      cases B with
      | false =>
        have hX1 := Hnext.out rfl
        have hnX : n < X.length := (List.getElem?_eq_some_iff.1 hX1).1
        have hnX' : (n : Int) < X.length := by omega
        obtain ⟨xg, xo, rfl, hxx⟩ := rd_att Hxr.out hX1
        have hfa : ∀ w', Mod (fun _ => False) wz w' → w'.cell? ⟨w8.heap.size, 1, none⟩ = some (.slice (some ⟨xg, xo, none⟩) X.length xc) ∧ w'.cell? ⟨xg, xo + n * 6, none⟩ = some (.string x.name) ∧ w'.cell? ⟨wr.heap.size, 0, none⟩ = some (.string x.name) := fun w' hw' =>
          ⟨cell_of (hw'.heap Hgx.out (fun h => h)) rfl, (hxx.mod hw' (fun h => h)) 0 _ rfl, cell_of (hw'.heap Hgwz.out (fun h => h)) rfl⟩
        have hxe : (x.name.toList == x.name.toList) = true := beq_self_eq_true _
        have Hfa := Lib.hid hfa
        clear hfa hX1 hxx Hnext Hother
        go_wp2_with (first | ((with_reducible refine wpList_load_lit 48 (.tmp 48) ?_); refine ⟨g, off + j * 6, rfl, x.cells, Hfc.out, by kernel_rfl, by kernel_rfl, ?_⟩) | ((with_reducible refine wpList_store_lit 48 (.tmp 10) (.tmp 49) ?_); refine ⟨rfl, x.cells, rfl, rfl, by kernel_rfl, rfl, ?_⟩; rw [Hwz.out]) | fail)
        refine wp_region_news (by kernel_rfl) (by kernel_rfl) ?_
        iterate 16 (first
          | (refine quiet_skip ?_ (fun K hK => ?_)
             · first | (go_simp; done) | (go_simp; simp [undef]; done)
             go_simp; refine hK _ ?_; clear hK K)
          | (refine quiet_do ?_ ?_ (fun w' hw' => ?_) (fun K hK => ?_)
             · first | (go_simp; done) | (go_simp; simp [undef]; done)
             rotate_left
             · obtain ⟨f1, f2, f3⟩ := Hfa.out w' hw'
               go_simp
               rfl
             go_simp; refine hK _ ?_; clear hK K))
        refine quiet_end (fun w' hw' => ?_)
        have Hw' := Lib.hid (Hmz.out.trans hw' (fun _ _ h => h))
        clear hw'
        go_wp2_with fail
        go_roundw
        case rel => exact ⟨j + 1, n + 1, by go_num, hlt, by go_num, by rw [Hnj.out]; rfl, Hw'.out⟩
        case measure => simp [intOf]; omega
      | true =>
        by_cases hnX : n < X.length
        · have hnX' : (n : Int) < X.length := by omega
          obtain ⟨y, hy⟩ : ∃ y, X[n]? = some y := ⟨_, List.getElem?_eq_getElem hnX⟩
          have hxe := Hother.out rfl y hy
          obtain ⟨xg, xo, rfl, hxx⟩ := rd_att Hxr.out hy
          have hfa : ∀ w', Mod (fun _ => False) wz w' → w'.cell? ⟨w8.heap.size, 1, none⟩ = some (.slice (some ⟨xg, xo, none⟩) X.length xc) ∧ w'.cell? ⟨xg, xo + n * 6, none⟩ = some (.string y.name) ∧ w'.cell? ⟨wr.heap.size, 0, none⟩ = some (.string x.name) := fun w' hw' =>
            ⟨cell_of (hw'.heap Hgx.out (fun h => h)) rfl, (hxx.mod hw' (fun h => h)) 0 _ rfl, cell_of (hw'.heap Hgwz.out (fun h => h)) rfl⟩
          have Hfa := Lib.hid hfa
          clear hfa hy hxx Hnext Hother
          go_wp2_with (first | ((with_reducible refine wpList_load_lit 48 (.tmp 48) ?_); refine ⟨g, off + j * 6, rfl, x.cells, Hfc.out, by kernel_rfl, by kernel_rfl, ?_⟩) | ((with_reducible refine wpList_store_lit 48 (.tmp 10) (.tmp 49) ?_); refine ⟨rfl, x.cells, rfl, rfl, by kernel_rfl, rfl, ?_⟩; rw [Hwz.out]) | fail)
          refine wp_region_news (by kernel_rfl) (by kernel_rfl) ?_
          iterate 16 (first
            | (refine quiet_skip ?_ (fun K hK => ?_)
               · first | (go_simp; done) | (go_simp; simp [undef]; done)
               go_simp; refine hK _ ?_; clear hK K)
            | (refine quiet_do ?_ ?_ (fun w' hw' => ?_) (fun K hK => ?_)
               · first | (go_simp; done) | (go_simp; simp [undef]; done)
               rotate_left
               · obtain ⟨f1, f2, f3⟩ := Hfa.out w' hw'
                 go_simp
                 rfl
               go_simp; refine hK _ ?_; clear hK K))
          refine quiet_end (fun w' hw' => ?_)
          have Hw' := Lib.hid (Hmz.out.trans hw' (fun _ _ h => h))
          clear hw'
          go_wp2_with fail
          go_roundw
          case rel => exact ⟨j + 1, n, by go_num, hlt, by go_num, by rw [Hnj.out]; rfl, Hw'.out⟩
          case measure => simp [intOf]; omega
        · have hnX' : (X.length : Int) ≤ n := by omega
          have hfa : ∀ w', Mod (fun _ => False) wz w' → w'.cell? ⟨w8.heap.size, 1, none⟩ = some (.slice xa X.length xc) := fun w' hw' => cell_of (hw'.heap Hgx.out (fun h => h)) rfl
          have Hfa := Lib.hid hfa
          clear hfa Hnext Hother
          go_wp2_with (first | ((with_reducible refine wpList_load_lit 48 (.tmp 48) ?_); refine ⟨g, off + j * 6, rfl, x.cells, Hfc.out, by kernel_rfl, by kernel_rfl, ?_⟩) | ((with_reducible refine wpList_store_lit 48 (.tmp 10) (.tmp 49) ?_); refine ⟨rfl, x.cells, rfl, rfl, by kernel_rfl, rfl, ?_⟩; rw [Hwz.out]) | fail)
          refine wp_region_news (by kernel_rfl) (by kernel_rfl) ?_
          iterate 16 (first
            | (refine quiet_skip ?_ (fun K hK => ?_)
               · first | (go_simp; done) | (go_simp; simp [undef]; done)
               go_simp; refine hK _ ?_; clear hK K)
            | (refine quiet_do ?_ ?_ (fun w' hw' => ?_) (fun K hK => ?_)
               · first | (go_simp; done) | (go_simp; simp [undef]; done)
               rotate_left
               · have f1 := Hfa.out w' hw'
                 go_simp
                 rfl
               go_simp; refine hK _ ?_; clear hK K))
          refine quiet_end (fun w' hw' => ?_)
          have Hw' := Lib.hid (Hmz.out.trans hw' (fun _ _ h => h))
          clear hw'
          go_wp2_with fail
          go_roundw
          case rel => exact ⟨j + 1, n, by go_num, hlt, by go_num, by rw [Hnj.out]; rfl, Hw'.out⟩
          case measure => simp [intOf]; omega
    · obtain rfl : j = Q.length := by omega
      rw [List.take_length, HX.out] at hn
      subst hn
      have hgx := hmr.heap Hgw9.out (fun h => h)
      have hge := hmr.heap HE9.out (fun h => h)
      have hgf := hmr.heap HF9.out (fun h => h)
      have hm0r := Hm09.out.trans hmr (fun _ _ h => h)
      have hmx := rmatch_at wr fs (.slice fa m.length fc) m (Hf.out.mod hm0r (fun _ _ h => h)) Hml.out Hfs.out Hmt.out E (.slice xa X.length xc) X (HownX9.out.mod hmr (fun _ _ h => h)).rd (by omega) (by omega) (fun a ha => HQt.out a (keepA_sub H Q a (by rw [HX.out]; exact ha)))
      have hEq : (E.toList == E.toList) = true := beq_self_eq_true _
      have hown10 := Hown9.out.mod hmr (fun _ _ h => h)
      have himp : (underB E fs && m.all fun c => rMatchC c X) = true → (underB E fs && m.all fun c => rMatchC c Q) = true := fun h => by
        rw [Bool.and_eq_true] at h ⊢
        refine ⟨h.1, List.all_eq_true.2 fun c hc => rMatchC_sub (H := H) ?_⟩
        rw [HX.out]
        exact List.all_eq_true.1 h.2 c hc
      obtain ⟨B1, hB1⟩ : ∃ B, (underB E fs && m.all fun c => rMatchC c X) = B := ⟨_, rfl⟩
      rw [hB1] at hmx himp
      have x0 : wr.cell? ⟨w8.heap.size, 0, none⟩ = some (.string E) := cell_of hgx rfl
      have x1 : wr.cell? ⟨w8.heap.size, 1, none⟩ = some (.slice xa X.length xc) := cell_of hgx rfl
      have e0 : wr.cell? ⟨w.heap.size, 0, none⟩ = some (.string E) := cell_of hge rfl
      have e1 : wr.cell? ⟨w.heap.size, 1, none⟩ = some (.slice ea Q.length ec) := cell_of hge rfl
      have f0 : wr.cell? ⟨wa.heap.size, 0, none⟩ = some (.string fs) := cell_of hgf rfl
      have f1 : wr.cell? ⟨wa.heap.size, 1, none⟩ = some (.slice fa m.length fc) := cell_of hgf rfl
      have Hm0r := Lib.hid hm0r
      have Hmx := Lib.hid hmx
      have Himp := Lib.hid himp
      have Hown10 := Lib.hid hown10
      have Hge := Lib.hid hge
      have Hgf := Lib.hid hgf
      clear hm0r hmx himp hown10 hge hgf hgx hmr hB1
      go_wp2_with fail
      refine Hmx.out.mono ?_
      rintro e wx ⟨rfl, hmx1⟩
      have hm0x := Hm0r.out.trans hmx1 (fun _ _ h => h)
      have hgex := hmx1.heap Hge.out (fun h => h)
      have hgfx := hmx1.heap Hgf.out (fun h => h)
      cases B1 with
      | false =>
        have Hm0x := Lib.hid hm0x
        clear hm0x hgex hgfx hmx1 x0 x1 e0 e1 f0 f1
        go_wp2
        go_ret
        exact ⟨rfl, Hm0x.out⟩
      | true =>
        have hmq := rmatch_at wx fs (.slice fa m.length fc) m (Hf.out.mod hm0x (fun _ _ h => h)) Hml.out Hfs.out Hmt.out E (.slice ea Q.length ec) Q (Hown10.out.mod hmx1 (fun _ _ h => h)).rd (by omega) (by omega) HQt.out
        rw [Himp.out rfl] at hmq
        clear x0 x1 e0 e1 f0 f1
        have e0 : wx.cell? ⟨w.heap.size, 0, none⟩ = some (.string E) := cell_of hgex rfl
        have e1 : wx.cell? ⟨w.heap.size, 1, none⟩ = some (.slice ea Q.length ec) := cell_of hgex rfl
        have f0 : wx.cell? ⟨wa.heap.size, 0, none⟩ = some (.string fs) := cell_of hgfx rfl
        have f1 : wx.cell? ⟨wa.heap.size, 1, none⟩ = some (.slice fa m.length fc) := cell_of hgfx rfl
        have Hm0x := Lib.hid hm0x
        have Hmq := Lib.hid hmq
        clear hm0x hmq hgex hgfx hmx1
        go_wp2_with fail
        refine Hmq.out.mono ?_
        rintro e wy ⟨rfl, hmy⟩
        have hm0y := Hm0x.out.trans hmy (fun _ _ h => h)
        have Hm0y := Lib.hid hm0y
        clear hm0y hmy e0 e1 f0 f1
        go_wp2
        go_ret
        exact ⟨rfl, Hm0y.out⟩
end Go.Proofs.Ytpfnemkfbelpcaa
