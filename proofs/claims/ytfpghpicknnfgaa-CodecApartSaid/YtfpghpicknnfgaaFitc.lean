/-
  fit of chapter 04.
-/
import Derived.Test.YtfpghpicknnfgaaEvb
import Derived.Test.YtfpghpicknnfgaaRdall
import Derived.Test.YtfpghpicknnfgaaName
namespace Go.Proofs.Ytfpghpicknnfgaa
open Go.RowKit

theorem BytesAt.new (w : World) (bs : List UInt8) (t : TypeId) : BytesAt (w.alloc (.cells (u8s bs).toArray t)) w.heap.size (.slice (some ⟨w.heap.size, 0, none⟩) bs.length bs.length) bs :=
  ⟨_, _, rfl, Nat.le_refl _, (fun h => by cases h), fun b hb => ⟨0, (by cases hb; rfl), (by simp), fun j u hu => by
    have := CellsAt.new w (u8s bs) t j (.int .u8 (u.toNat : Int)) (by simp [u8s, hu])
    exact this⟩⟩

theorem readE_00 : readE [0, 0] = some ((⟨#[]⟩, []), []) := by kernel_rfl
theorem readE_01 : readE [0, 1] = none := by kernel_rfl
theorem less_12 : fLt 4607182418800017408 4611686018427387904 = true := by decide +kernel
theorem evBytes_00 : (evBytes ⟨#[]⟩ []).length = 2 := by kernel_rfl
theorem isName_a : isName ⟨#[97]⟩ = true := by decide +kernel

set_option maxRecDepth 20000 in
set_option maxHeartbeats 2000000 in
theorem fit_at (w : World) : Calls Try.prog 11 #[] w fun e w' => e = .returned (.bool true) ∧ Mod (fun _ => False) w w' := by
  have hb1 : BytesAt (w.alloc (.cells #[.int .u8 0, .int .u8 0] 5)) w.heap.size (.slice (some ⟨w.heap.size, 0, none⟩) 2 2) [0, 0] := BytesAt.new w [0, 0] 5
  have hr1 := read_event _ _ _ _ hb1 (by simp)
  have Hr1 := Lib.hid hr1
  clear hb1 hr1
  go_enter Try.func11, Try.ntmps11
  go_wp2_with fail
  refine Hr1.out.mono ?_
  rintro e w1 ⟨sc, l, av, ok, rfl, hown, hfresh, hsc, hm1, hcase⟩
  obtain ⟨rfl, rfl, rfl⟩ : ok = true ∧ sc = ⟨#[]⟩ ∧ l = [] := by
    rcases hcase with ⟨h, h2⟩ | ⟨-, h2, -⟩
    · rw [readE_00] at h2
      cases h2
      exact ⟨h, rfl, rfl⟩
    · exact absurd readE_00 (h2 _)
  clear hcase hsc
  obtain ⟨ava, avc, rfl, -⟩ := hown.shape
  have hm1' : Mod (fun _ => False) w w1 := ((Mod.refl _ w).alloc _).trans hm1 (fun _ _ h => h)
  have Hown := Lib.hid hown
  have Hm1 := Lib.hid hm1'
  clear hown hm1 hm1' hfresh Hr1
  have hb2 : BytesAt ((w1.alloc (.cells #[.string ⟨#[]⟩, .slice ava 0 avc] 26)).alloc (.cells #[.int .u8 0, .int .u8 1] 5)) (w1.heap.size + 1) (.slice (some ⟨w1.heap.size + 1, 0, none⟩) 2 2) [0, 1] := by
    have := BytesAt.new (w1.alloc (.cells #[.string ⟨#[]⟩, .slice ava 0 avc] 26)) [0, 1] 5
    rw [show (w1.alloc (.cells #[.string ⟨#[]⟩, .slice ava 0 avc] 26)).heap.size = w1.heap.size + 1 by simp] at this
    exact this
  have Hr2 := Lib.hid (read_event _ _ _ _ hb2 (by simp))
  have hg1 := heap_alloc_new w1 (.cells #[.string ⟨#[]⟩, .slice ava 0 avc] 26)
  have Hg1 := Lib.hid (heap_old (o := .cells #[.int .u8 0, .int .u8 1] 5) hg1)
  have Hm12 := Lib.hid ((Hm1.out.alloc (.cells #[.string ⟨#[]⟩, .slice ava 0 avc] 26)).alloc (.cells #[.int .u8 0, .int .u8 1] 5))
  have Hown2 := Lib.hid ((Hown.out.alloc (.cells #[.string ⟨#[]⟩, .slice ava 0 avc] 26)).alloc (.cells #[.int .u8 0, .int .u8 1] 5))
  clear hb2 hg1
  go_wp2_with (first | (refine wpList_store_new rfl 26 (.tmp 1) (.tmp 8) rfl rfl _ 26 [.string ⟨#[]⟩, .slice ava ([] : List Att).length avc] rfl rfl (by kernel_rfl) (fun u hu => List.all_eq_true.1 rfl u hu) ?_) | fail)
  refine Hr2.out.mono ?_
  rintro e w2 ⟨sc2, l2, av2, ok2, rfl, hown2, hfresh2, hsc2, hm2, hcase⟩
  obtain ⟨rfl, rfl, rfl⟩ : ok2 = false ∧ sc2 = ⟨#[]⟩ ∧ l2 = [] := by
    rcases hcase with ⟨h, h2⟩ | ⟨h, -, h2, h3⟩
    · rw [readE_01] at h2
      cases h2
    · exact ⟨h, h2, h3⟩
  clear hcase hsc2 hfresh2
  obtain ⟨ava2, avc2, rfl, -⟩ := hown2.shape
  have hg2 := hm2.heap Hg1.out (by simp)
  have hown22 := Hown2.out.mod hm2 (fun _ _ h => h)
  have hm22 := Hm12.out.trans hm2 (fun _ _ h => h)
  have hgal := heap_old (o := .cells #[.string ⟨#[]⟩, .slice ava2 0 avc2] 26) hg2
  have hev := ev_bytes (w2.alloc (.cells #[.string ⟨#[]⟩, .slice ava2 0 avc2] 26)) ⟨#[]⟩ (by decide) (.slice ava 0 avc) [] ((hown22.alloc _).rd) (fun b hb => by have := (hown22.alloc (.cells #[.string ⟨#[]⟩, .slice ava2 0 avc2] 26)).lt b hb; exact this) (by simp) (fun a ha => by cases ha)
  have Hev := Lib.hid hev
  have Hm22 := Lib.hid (hm22.alloc (.cells #[.string ⟨#[]⟩, .slice ava2 0 avc2] 26))
  have e1 : (w2.alloc (.cells #[.string ⟨#[]⟩, .slice ava2 0 avc2] 26)).cell? ⟨w1.heap.size, 0, none⟩ = some (.string ⟨#[]⟩) := cell_of hgal rfl
  have e2 : (w2.alloc (.cells #[.string ⟨#[]⟩, .slice ava2 0 avc2] 26)).cell? ⟨w1.heap.size, 1, none⟩ = some (.slice ava 0 avc) := cell_of hgal rfl
  obtain ⟨wz, hwz⟩ : ∃ wz, w2.alloc (.cells #[.string ⟨#[]⟩, .slice ava2 0 avc2] 26) = wz := ⟨_, rfl⟩
  rw [hwz] at e1 e2
  have Hwz := Lib.hid hwz
  clear hg2 hown22 hm22 hgal hev hown2 hm2 Hr2 hwz
  go_wp2_with (first | (refine wpList_store_new rfl 26 (.tmp 3) (.tmp 13) rfl rfl _ 26 [.string ⟨#[]⟩, .slice ava2 ([] : List Att).length avc2] rfl rfl (by kernel_rfl) (fun u hu => List.all_eq_true.1 rfl u hu) ?_; rw [show w2.alloc (.cells ([.string ⟨#[]⟩, .slice ava2 ([] : List Att).length avc2] : List Value).toArray 26) = wz from Hwz.out]) | fail)
  have hev := Hev.out
  rw [Hwz.out] at hev
  have hm22 := Hm22.out
  rw [Hwz.out] at hm22
  have Hm22' := Lib.hid hm22
  clear hm22 e1 e2
  refine hev.mono ?_
  rintro e w3 ⟨v3, rfl, hown3, -, hm3⟩
  obtain ⟨a3, c3, hv3, -⟩ := hown3.shape
  rw [evBytes_00] at hv3
  subst hv3
  have hm4 := Lib.hid (Hm22'.out.trans hm3 (fun _ _ h => h))
  have hnm := name_at ⟨#[97]⟩ (by decide) w3
  rw [isName_a] at hnm
  have hls := less_at 4607182418800017408 4611686018427387904 w3
  rw [less_12] at hls
  have Hnm := Lib.hid hnm
  have Hls := Lib.hid hls
  clear hnm hls hown3 hm3 hev Hev
  go_wp2_with fail
  refine Hnm.out.mono ?_
  rintro e w4 ⟨rfl, rfl⟩
  go_wp2_with fail
  refine Hls.out.mono ?_
  rintro e w5 ⟨rfl, rfl⟩
  go_wp2
  go_ret
  exact ⟨rfl, hm4.out⟩
end Go.Proofs.Ytfpghpicknnfgaa
