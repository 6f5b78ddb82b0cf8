/-
  fit.
-/
import Derived.Test.YtnckccpcpndcmaaTnew
import Derived.Test.YtnckccpcpndcmaaTlaw
namespace Go.Proofs.Ytnckccpcpndcmaa
open Go.RowKit

set_option maxRecDepth 20000 in
set_option maxHeartbeats 4000000 in
theorem fit09_at (w : World) : Calls Try.prog 7 #[] w fun e w' => e = .returned (.bool true) ∧ Mod (fun _ => False) w w' := by
  obtain ⟨wz, hwz⟩ : ∃ wz : World, w.alloc (.cells #[.int .i64 0, .int .i64 1, .int .i64 2, .int .i64 1] 25) = wz := ⟨_, rfl⟩
  have hmwz : Mod (fun _ => False) w wz := hwz ▸ (Mod.refl (fun _ => False) w).alloc _
  have hgwz := heap_alloc_new w (.cells #[.int .i64 0, .int .i64 1, .int .i64 2, .int .i64 1] 25)
  rw [hwz] at hgwz
  have hzwz : wz.heap.size = w.heap.size + 1 := by rw [← hwz]; simp
  have hp : RdSl wz 2 (.slice (some ⟨w.heap.size, 0, none⟩) 2 2) 2 (prs [(0, 1), (2, 1)]) := ⟨rfl, _, _, rfl, Nat.le_refl _, fun h => by (cases h), fun b hb _ => ⟨w.heap.size, 0, (Option.some.inj hb).symm, fun j u hu => by rw [Nat.zero_add]; exact (cell_of_row wz w.heap.size j _ _ _ hgwz).trans (by simpa [prs] using hu)⟩⟩
  have hn := new_at 3 _ [(0, 1), (2, 1)] wz hp (by decide)
  rw [fit_new] at hn
  have Hn := Lib.hid hn
  have Hmwz := Lib.hid hmwz
  have Hwz := Lib.hid hwz
  clear hn hmwz hwz hp hgwz hzwz
  go_enter Try.func7, Try.ntmps7
  go_wp2_with (first | (rw [show w.alloc _ = wz from Hwz.out]) | fail)
  refine Hn.out.mono ?_
  rintro e w2 ⟨p, rfl, -, h1, h2⟩
  obtain ⟨t, rfl, -, hT⟩ := h1 rfl
  have hm02 := Hmwz.out.trans h2 (fun _ _ h => h)
  have hpa := path_at w2 t [[1], [0, 2], [1]] 0 2 7 [0, 1, 2] (by decide) fit_path hT (by decide) (by decide)
  have Hpa := Lib.hid hpa
  have HT := Lib.hid hT
  have Hm02 := Lib.hid hm02
  clear hpa hT hm02 h1 h2 Hn
  go_wp2_with fail
  refine Hpa.out.mono ?_
  rintro e w3 ⟨v', rfl, h1, -, h2, h3⟩
  obtain ⟨g, off, cap, rfl⟩ := h2 (by decide)
  have hm03 := Hm02.out.trans h3 (fun _ _ h => h)
  have hT3 := HT.out.mod h3
  obtain ⟨g', off', e1, c⟩ := rd_int h1 (j := 1) rfl
  cases e1
  have hle := len_at w3 t _ hT3
  have Hle := Lib.hid hle
  have Hm03 := Lib.hid hm03
  clear hle hm03 h1 h2 h3 hT3 Hpa HT
  go_wp2_with fail
  refine Hle.out.mono ?_
  rintro e w4 ⟨rfl, rfl⟩
  go_wp2
  go_ret
  exact ⟨rfl, Hm03.out⟩
end Go.Proofs.Ytnckccpcpndcmaa
