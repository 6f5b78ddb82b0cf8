/-
  gazettelaw14.fit.
-/
import Derived.Test.YtloplmaekonenaaGreatDoorZd37
namespace Go.Proofs.YtloplmaekonenaaGreatDoor
set_option maxRecDepth 20000
open Go.RowKit

instance decV : DecidableEq V := fun a b => decidable_of_iff (a.kind = b.kind ∧ a.int = b.int ∧ a.num = b.num ∧ a.text = b.text ∧ a.yes = b.yes) ⟨fun h => by cases a; cases b; simp_all, fun h => by cases h; simp⟩
instance decC : DecidableEq Cnd := fun a b => decidable_of_iff (a.name = b.name ∧ a.op = b.op ∧ a.v = b.v) ⟨fun h => by cases a; cases b; simp_all, fun h => by cases h; simp⟩
def cX (n : Int) : Cnd := ⟨⟨#[120]⟩, 4, ⟨0, n, 0, ⟨#[]⟩, false⟩⟩
def fitM : List (Int × Fil) := [(1, (⟨#[]⟩, [cX 3])), (2, (⟨#[]⟩, [cX 5]))]
theorem fit14_n3 : normC [cX 3] = [cX 3] := by decide +kernel
theorem fit14_n5 : normC [cX 5] = [cX 5] := by decide +kernel
theorem riseS_of {L : List (List UInt8)} (h : L.Pairwise fun a b => leB a b = true) : riseS L = L := List.mergeSort_of_pairwise h
theorem fit14_k0 : allK fitM 0 = [keyF (⟨#[]⟩, [cX 3]), keyF (⟨#[]⟩, [cX 5])] := by
  unfold allK
  rw [show onceS ((fitM.filter fun p => !(p.1 == 0)).map fun p => keyF p.2) = [keyF (⟨#[]⟩, [cX 3]), keyF (⟨#[]⟩, [cX 5])] by decide +kernel]
  exact riseS_of (by decide +kernel)
theorem fit14_o0 : outL fitM 0 = [(⟨#[]⟩, [cX 3])] := by
  unfold outL
  rw [fit14_k0]
  decide +kernel
theorem fit14_k1 : allK fitM 1 = [keyF (⟨#[]⟩, [cX 5])] := by
  unfold allK
  rw [show onceS ((fitM.filter fun p => !(p.1 == 1)).map fun p => keyF p.2) = [keyF (⟨#[]⟩, [cX 5])] by decide +kernel]
  exact riseS_of (by decide +kernel)
theorem fit14_o1 : (outL fitM 1).length = 1 := by
  unfold outL
  rw [fit14_k1]
  decide +kernel
theorem fit14_t1 : tabF [(1, (⟨#[]⟩, [cX 3]))] 2 (keyF (⟨#[]⟩, [cX 5])) = none := by decide +kernel
theorem fit14_inj : ∀ p ∈ fitM, ∀ q ∈ fitM, keyF p.2 = keyF q.2 → p.2 = q.2 := by decide +kernel
theorem fit14_p : keyF (⟨#[]⟩, [cX 3]) = [58, 32, 120, 32, 62, 32, 51] := by decide +kernel
theorem cX_fits {n : Int} (h : 0 ≤ n ∧ n ≤ 5) : ∀ c ∈ [cX n], c.fits := fun c hc => by
  obtain rfl : c = cX n := by simpa using hc
  exact ⟨⟨⟨show (-9223372036854775808 : Int) ≤ n by omega, show n ≤ (9223372036854775807 : Int) by omega⟩, (by decide : (0 : Nat) < 2 ^ 64), (by decide : (0 : Nat) ≤ 1000000)⟩, (by decide : (1 : Nat) ≤ 1000000)⟩
/-- What the literal gives. -/
def FitX (w : World) (n : Int) (e : Ending) (w' : World) : Prop := ∃ v, e = .returned (.agg #[.string ⟨#[]⟩, v]) ∧ RdSl w' 7 v 1 (cnds [cX n]) ∧ Mod (fun _ => False) w w'
set_option maxHeartbeats 4000000 in
theorem fitx_at (w : World) (n : Int) : Calls Tryz.prog 54 #[.int .i64 n] w (FitX w n) := by
  obtain ⟨wa, hwa⟩ : ∃ wa : World, w.alloc (.cells #[.string ⟨#[]⟩, .slice none 0 0] 29) = wa := ⟨_, rfl⟩
  have hmwa : Mod (fun _ => False) w wa := hwa ▸ (Mod.refl (fun _ => False) w).alloc _
  have hgwa := heap_alloc_new w (.cells #[.string ⟨#[]⟩, .slice none 0 0] 29)
  rw [hwa] at hgwa
  have hzwa : wa.heap.size = w.heap.size + 1 := by rw [← hwa]; simp
  obtain ⟨wb, hwb⟩ : ∃ wb : World, wa.alloc (.cells (cX n).cells.toArray 81) = wb := ⟨_, rfl⟩
  have hmwb : Mod (fun _ => False) wa wb := hwb ▸ (Mod.refl (fun _ => False) wa).alloc _
  have hgwb := heap_alloc_new wa (.cells (cX n).cells.toArray 81)
  rw [hwb] at hgwb
  have hzwb : wb.heap.size = wa.heap.size + 1 := by rw [← hwb]; simp
  have hrz : RdSl wb 7 (.slice (some ⟨wa.heap.size, 0, none⟩) 1 1) 1 (cX n).cells := hwb ▸ RdSl.one wa (cX n).cells 81 rfl
  have hgab := hmwb.heap hgwa (fun h => h)
  have Hwa := Lib.hid hwa
  have Hmwa := Lib.hid hmwa
  have Hgwa := Lib.hid hgwa
  have Hwb := Lib.hid hwb
  have Hmwb := Lib.hid hmwb
  have Hgwb := Lib.hid hgwb
  have Hrz := Lib.hid hrz
  have Hgab := Lib.hid hgab
  clear hwa hmwa hgwa hwb hmwb hgwb hrz hgab hzwa hzwb
  go_enter Tryz.func54, Tryz.ntmps54
  go_wp2_with (first | (rw [show w.alloc _ = wa from Hwa.out]) | ((with_reducible refine wpList_build_one_lit 27 (.tmp 5) ?_); refine ⟨81, 7, Tryz.underlying27, by kernel_rfl, by kernel_rfl, by decide, by decide, (cX n).cells, rfl, rfl, ?_⟩; rw [Hwb.out]) | ((with_reducible refine wpList_store_row_lit 29 (.tmp 2) (.tmp 7) ?_); refine ⟨w.heap.size, rfl, _, _, Hgab.out, [.string ⟨#[]⟩, .slice (some ⟨wa.heap.size, 0, none⟩) 1 1], rfl, rfl, by kernel_rfl, rfl, ?_⟩; intro w4 h4 hm4; have f0 : w4.cell? ⟨w.heap.size, 0, none⟩ = some (.string ⟨#[]⟩) := cell_of h4 rfl; have f1 : w4.cell? ⟨w.heap.size, 1, none⟩ = some (.slice (some ⟨wa.heap.size, 0, none⟩) 1 1) := cell_of h4 rfl; have H4 := Lib.hid h4; have Hm4 := Lib.hid hm4; clear h4 hm4) | fail)
  have hm24 : Mod (fun _ => False) w w4 := ((Hmwa.out.trans Hmwb.out (fun _ _ h => h)).upon Hm4.out (fun k hk => .inr (Nat.le_of_eq (Eq.symm hk))))
  have hr4 : RdSl w4 7 (.slice (some ⟨wa.heap.size, 0, none⟩) 1 1) 1 (cX n).cells := Hrz.out.mod Hm4.out (fun k hk h => by
    have h1 : k = w.heap.size := h
    have h2 : wa.heap.size = k := Option.some.inj hk
    have h3 := (Array.getElem?_eq_some_iff.1 Hgwa.out).1
    omega)
  have Hm24 := Lib.hid hm24
  have Hr4 := Lib.hid hr4
  clear hm24 hr4
  refine bodyPost_cell rfl w.heap.size rfl [.string ⟨#[]⟩, .slice (some ⟨wa.heap.size, 0, none⟩) 1 1] (CellsAt.row H4.out) (by kernel_rfl) (by kernel_rfl) rfl ⟨_, rfl, Hr4.out, Hm24.out⟩

theorem one_of {l : List Fr} {q : Fil} (h : l.map Fr.fil = [q]) : ∃ fr, l = [fr] ∧ fr.fil = q := by
  cases l with
  | nil => cases h
  | cons a l =>
    cases l with
    | nil => exact ⟨a, rfl, by simpa using h⟩
    | cons b l => simp at h
set_option maxHeartbeats 8000000 in
theorem fit14_at (w0 w : World) (hl : Laid w0 w) : Calls Tryz.prog 23 #[] w fun e w' => e = .returned (.bool true) ∧ Mod (fun _ => False) w w' := by
  have hnew := tnew_at w
  have Hl := Lib.hid hl
  have Hnew := Lib.hid hnew
  clear hl hnew
  go_enter Tryz.func23, Tryz.ntmps23
  go_wp2_with fail
  refine Hnew.out.mono ?_
  rintro e w1 ⟨b, own, rfl, ht, hown, hm1⟩
  have hx1 := fitx_at w1 3
  have Ht := Lib.hid ht
  have Hown := Lib.hid hown
  have Hm1 := Lib.hid hm1
  have Hx1 := Lib.hid hx1
  clear ht hown hm1 hx1
  go_wp2_with fail
  refine Hx1.out.mono ?_
  rintro e w2 ⟨v2, rfl, hr2, hm2⟩
  have hm02 := Hm1.out.trans hm2 (fun _ _ h => h)
  have hadd := tadd_at w0 w2 (Hl.out.mod0 hm02) b own _ [] 0 (Ht.out.mod0 hm2 (fun _ _ h => h)) (by decide) (fun k hk => Nat.le_trans Hl.out.size (Hown.out k hk)) 1 (by decide) ⟨#[]⟩ v2 [cX 3] hr2 (by decide) (cX_fits (by decide)) (by decide)
  have Hr2 := Lib.hid hr2
  have Hm2 := Lib.hid hm2
  have Hm02 := Lib.hid hm02
  have Hadd := Lib.hid hadd
  clear hr2 hm2 hm02 hadd
  go_wp2_with fail
  refine Hadd.out.mono ?_
  rintro e w3 (⟨h, -⟩ | ⟨-, rfl, own3, C3, ht3, ho1, ho2, ho3, hm3⟩)
  · exact absurd rfl h
  rw [fit14_n3] at ht3
  have hm03 : Mod (fun _ => False) w w3 := Hm02.out.upon hm3 (fun k hk => .inr (Hown.out k hk))
  have hown3 : ∀ k, own3 k → w.heap.size ≤ k := fun k hk => (ho2 k hk).elim (Hown.out k) (fun h => Nat.le_trans Hm02.out.size h)
  have hx2 := fitx_at w3 5
  have Ht3 := Lib.hid ht3
  have Ho1 := Lib.hid ho1
  have Ho2 := Lib.hid ho2
  have Ho3 := Lib.hid ho3
  have Hm3 := Lib.hid hm3
  have Hm03 := Lib.hid hm03
  have Hown3 := Lib.hid hown3
  have Hx2 := Lib.hid hx2
  clear ht3 ho1 ho2 ho3 hm3 hm03 hown3 hx2
  go_wp2_with fail
  refine Hx2.out.mono ?_
  rintro e w4 ⟨v4, rfl, hr4, hm4⟩
  have hm04 := Hm03.out.trans hm4 (fun _ _ h => h)
  have hadd2 := tadd_at w0 w4 (Hl.out.mod0 hm04) b own3 C3 _ 1 (Ht3.out.mod0 hm4 (fun _ _ h => h)) (by decide) (fun k hk => Nat.le_trans Hl.out.size (Hown3.out k hk)) 2 (by decide) ⟨#[]⟩ v4 [cX 5] hr4 (by decide) (cX_fits (by decide)) (by decide)
  have Hr4 := Lib.hid hr4
  have Hm4 := Lib.hid hm4
  have Hm04 := Lib.hid hm04
  have Hadd2 := Lib.hid hadd2
  clear hr4 hm4 hm04 hadd2
  go_wp2_with fail
  refine Hadd2.out.mono ?_
  rintro e w5 (⟨h, -⟩ | ⟨-, rfl, own5, C5, ht5, ho1, ho2, ho3, hm5⟩)
  · exact absurd (by rw [fit14_n5]; exact fit14_t1) h
  rw [fit14_n5] at ht5
  have ht5' : Tab w5 b own5 C5 fitM 2 := ht5
  have hm05 : Mod (fun _ => False) w w5 := Hm04.out.upon hm5 (fun k hk => .inr (Hown3.out k hk))
  have hout := tout_at w5 b own5 C5 fitM 2 ht5' (by decide) fit14_inj 0 (by decide)
  rw [fit14_o0] at hout
  have Ht5 := Lib.hid ht5
  have Ht5' := Lib.hid ht5'
  have Ho1 := Lib.hid ho1
  have Ho2 := Lib.hid ho2
  have Ho3 := Lib.hid ho3
  have Hm5 := Lib.hid hm5
  have Hm05 := Lib.hid hm05
  have Hout := Lib.hid hout
  clear ht5 ht5' ho1 ho2 ho3 hm5 hm05 hout
  go_wp2_with fail
  refine Hout.out.mono ?_
  rintro e w6 ⟨v6, l6, rfl, hv6, hb6, hl6, hf6, hm6⟩
  obtain ⟨fr, rfl, hfr⟩ := one_of hl6
  obtain ⟨sc, fa, fc, cs⟩ := fr
  obtain ⟨rfl, rfl⟩ : sc = ⟨#[]⟩ ∧ cs = [cX 3] := ⟨congrArg Prod.fst hfr, congrArg Prod.snd hfr⟩
  obtain ⟨a6, c6, rfl, -⟩ := hv6.shape
  obtain ⟨g6, o6, rfl, hc6⟩ := rd_el (f := Fr.cells) (sz := 2) (fun _ => rfl) hv6.rd (j := 0) (x := ⟨⟨#[]⟩, fa, fc, [cX 3]⟩) rfl
  have hrf := (hf6 _ (List.mem_singleton.2 rfl)).1.rd
  have hm06 := Hm05.out.trans hm6 (fun _ _ h => h)
  have hpr := fprint_at w0 w6 (Hl.out.mod0 hm06) ⟨#[]⟩ (.slice fa 1 fc) [cX 3] hrf (by decide) (by decide) (cX_fits (by decide))
  rw [show filPrt ⟨#[]⟩ [cX 3] = [58, 32, 120, 32, 62, 32, 51] from fit14_p, show str [58, 32, 120, 32, 62, 32, 51] = ⟨#[58, 32, 120, 32, 62, 32, 51]⟩ from rfl] at hpr
  have c0 : w6.cell? ⟨g6, o6, none⟩ = some (.string ⟨#[]⟩) := by have := hc6 0 _ rfl; simpa using this
  have c1 : w6.cell? ⟨g6, o6 + 1, none⟩ = some (.slice fa 1 fc) := by have := hc6 1 _ rfl; simpa using this
  have Hv6 := Lib.hid hv6
  have Hb6 := Lib.hid hb6
  have Hl6 := Lib.hid hl6
  have Hf6 := Lib.hid hf6
  have Hm6 := Lib.hid hm6
  have Hrf := Lib.hid hrf
  have Hm06 := Lib.hid hm06
  have Hpr := Lib.hid hpr
  have Hc6 := Lib.hid hc6
  have Hfr := Lib.hid hfr
  clear hv6 hb6 hl6 hf6 hm6 hrf hm06 hpr hc6 hfr
  go_wp2_with fail
  refine Hpr.out.mono ?_
  rintro e w7 ⟨rfl, hm7⟩
  have hm07 := Hm06.out.trans hm7 (fun _ _ h => h)
  have hout2 := tout_at w7 b own5 C5 fitM 2 (Ht5'.out.mod0 (Hm6.out.trans hm7 (fun _ _ h => h)) (fun _ _ h => h)) (by decide) fit14_inj 1 (by decide)
  have Hm7 := Lib.hid hm7
  have Hm07 := Lib.hid hm07
  have Hout2 := Lib.hid hout2
  clear hm7 hm07 hout2
  go_wp2_with fail
  refine Hout2.out.mono ?_
  rintro e w8 ⟨v8, l8, rfl, hv8, -, hl8, -, hm8⟩
  have hm08 := Hm07.out.trans hm8 (fun _ _ h => h)
  have hll : l8.length = 1 := by
    have h1 := congrArg List.length hl8
    rw [List.length_map, fit14_o1] at h1
    exact h1
  obtain ⟨a8, c8, rfl, -⟩ := hv8.shape
  rw [hll]
  have Hv8 := Lib.hid hv8
  have Hl8 := Lib.hid hl8
  have Hm8 := Lib.hid hm8
  have Hm08 := Lib.hid hm08
  have Hll := Lib.hid hll
  clear hv8 hl8 hm8 hm08 hll
  go_wp2_with fail
  go_ret
  exact ⟨rfl, Hm08.out⟩
end Go.Proofs.YtloplmaekonenaaGreatDoor
