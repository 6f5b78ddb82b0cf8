/-
  Few attributes, and short ones.
-/
import Derived.Test.YtfpghpicknnfgaaEvsame
namespace Go.Proofs.Ytfpghpicknnfgaa
open Go.RowKit

set_option maxHeartbeats 1000000 in
theorem light_at (w : World) (lv : Value) (l : List Att) (hv : RdSl w 6 lv l.length (atts l)) (hll : l.length ≤ maxLen) :
    Calls Try.prog 37 #[lv] w fun e w' => ∃ b, e = .returned (.bool b) ∧ (b = true → l.length ≤ 30) ∧ Mod (fun _ => False) w w' := by
  obtain ⟨a, ca, rfl, hca⟩ : ∃ a c, lv = .slice a l.length c ∧ l.length ≤ c := by obtain ⟨-, a, c, h, h2, -⟩ := hv; exact ⟨a, c, h, h2⟩
  have hll' : (l.length : Int) ≤ 9223372036854775807 := by simp only [maxLen] at hll; omega
  have hca' : (l.length : Int) ≤ ca := by omega
  have Hv := Lib.hid hv
  clear hv hll
  go_enter Try.func37, Try.ntmps37
  go_wp2_with fail
  go_loopw [7] (fun i wr => ∃ j : Nat, i = .int .i64 j ∧ j ≤ l.length ∧ Mod (fun _ => False) w wr) (fun i _ => l.length - (intOf i).toNat)
  case atStart => exact ⟨0, rfl, Nat.zero_le _, Mod.refl _ _⟩
  case round =>
    obtain ⟨j, rfl, hj, hmr⟩ := hrel
    by_cases hlt : j < l.length
    · have hlt' : (j : Int) < l.length := by omega
      obtain ⟨x, hxj⟩ : ∃ x, l[j]? = some x := ⟨_, List.getElem?_eq_getElem hlt⟩
      obtain ⟨g, off, rfl, hf⟩ : ∃ g off, a = some ⟨g, off, none⟩ ∧ CellsAt wr g (off + j * 6) x.cells := rd_elem (Hv.out.mod hmr (fun _ _ h => h)) hxj
      obtain ⟨wz, hwz⟩ : ∃ wz : World, wr.alloc (.cells x.cells.toArray 80) = wz := ⟨_, rfl⟩
      have hmwz : Mod (fun _ => False) wr wz := hwz ▸ (Mod.refl (fun _ => False) wr).alloc _
      have hgwz := heap_alloc_new wr (.cells x.cells.toArray 80)
      rw [hwz] at hgwz
      have hzwz : wz.heap.size = wr.heap.size + 1 := by rw [← hwz]; simp
      have hmz := hmr.trans hmwz (fun _ _ h => h)
      have c0 : wz.cell? ⟨wr.heap.size, 0, none⟩ = some (.string x.name) := cell_of hgwz rfl
      have c4 : wz.cell? ⟨wr.heap.size, 4, none⟩ = some (.string x.v.text) := cell_of hgwz rfl
      have Hmr := Lib.hid hmr
      have Hxj := Lib.hid hxj
      have Hf := Lib.hid hf
      have Hwz := Lib.hid hwz
      have Hmz := Lib.hid hmz
      clear hmr hxj hf hwz hmz hmwz hgwz hzwz
      go_wp2_with (first | ((with_reducible refine wpList_load_lit 80 (.tmp 9) ?_); refine ⟨g, off + j * 6, rfl, x.cells, Hf.out, by kernel_rfl, by kernel_rfl, ?_⟩) | ((with_reducible refine wpList_store_lit 80 (.tmp 4) (.tmp 10) ?_); refine ⟨rfl, x.cells, rfl, rfl, by kernel_rfl, rfl, ?_⟩; rw [Hwz.out]) | fail)
      · go_ret
        exact ⟨false, rfl, (fun h => by cases h), Hmz.out⟩
      · go_roundw
        case rel => exact ⟨j + 1, by go_num, hlt, Hmz.out⟩
        case measure => simp [intOf]; omega
    · obtain rfl : j = l.length := by omega
      have Hmr := Lib.hid hmr
      clear hmr
      go_wp2
      go_ret
      refine ⟨_, rfl, fun h => ?_, Hmr.out⟩
      have h2 : (l.length : Int) ≤ 30 := by simpa using h
      omega
end Go.Proofs.Ytfpghpicknnfgaa
