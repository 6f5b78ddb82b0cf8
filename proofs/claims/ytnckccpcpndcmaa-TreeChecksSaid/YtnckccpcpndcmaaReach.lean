/-
  What the law's closure reaches in its matrix.
-/
import Derived.Test.YtnckccpcpndcmaaCk2
namespace Go.Proofs.Ytnckccpcpndcmaa
open Go.RowKit

def bls (l : List Bool) : List Value := l.map Value.bool
theorem bls_at {w : World} {G : Nat} {t : TypeId} {s : List Bool} (h : w.heap[G]? = some (.cells (bls s).toArray t (0, 0))) {j : Nat} (hj : j < s.length) : w.cell? ⟨G, j, none⟩ = some (.bool (s.getD j false)) := by
  refine (cell_of_row w G j _ _ _ h).trans ?_
  simp [bls, List.getD, hj]
theorem bls_set {w : World} {G : Nat} {t : TypeId} {s : List Bool} (h : w.heap[G]? = some (.cells (bls s).toArray t (0, 0))) (j : Nat) (v : Bool) : (w.setCell ⟨G, j, none⟩ (.bool v)).heap[G]? = some (.cells (bls (s.set j v)).toArray t (0, 0)) := by
  have := heap_set (i := j) (v := .bool v) h
  rw [set_row] at this
  rw [this]
  unfold bls
  rw [List.map_set]

set_option maxRecDepth 20000 in
set_option maxHeartbeats 4000000 in
theorem reach_at (w : World) (G a b : Nat) (M : List Bool) (hM : M.length = 36) (hG : w.heap[G]? = some (.cells (bls M).toArray 34 (0, 0))) (ha : a < 6) (hb : b < 6) :
    Calls Try.prog 11 #[.int .i64 a, .int .i64 b, .pointer (some ⟨G, 0, none⟩)] w fun e w' => e = .returned (.bool (ckReach M a b)) ∧ Mod (fun _ => False) w w' := by
  have ha' : (a : Int) < 6 := by omega
  have hb' : (b : Int) < 6 := by omega
  have hGs := (Array.getElem?_eq_some_iff.1 hG).1
  have hlit : ([Value.bool false, .bool false, .bool false, .bool false, .bool false, .bool false].set a (.bool true)) = bls (ckStart a) := by unfold bls ckStart; rw [List.map_set]; rfl
  obtain ⟨wz, hwz⟩ : ∃ wz : World, w.alloc (.cells ([Value.bool false, .bool false, .bool false, .bool false, .bool false, .bool false].set a (.bool true)).toArray 33) = wz := ⟨_, rfl⟩
  have hmwz : Mod (fun _ => False) w wz := hwz ▸ (Mod.refl (fun _ => False) w).alloc _
  have hgwz := heap_alloc_new w (.cells ([Value.bool false, .bool false, .bool false, .bool false, .bool false, .bool false].set a (.bool true)).toArray 33)
  rw [hwz] at hgwz
  have hzwz : wz.heap.size = w.heap.size + 1 := by rw [← hwz]; simp
  rw [hlit] at hgwz
  have Hwz := Lib.hid hwz
  have HG := Lib.hid hG
  have Hgwz := Lib.hid hgwz
  have Hmwz := Lib.hid hmwz
  clear hwz hG hgwz hmwz hlit hzwz
  go_enter Try.func11, Try.ntmps11
  go_wp2_with fail
  rw [show w.alloc _ = wz from Hwz.out]
  go_loopw [11] (fun i wr => ∃ k : Nat, i = .int .i64 k ∧ k ≤ 6 ∧ wr.heap[w.heap.size]? = some (.cells (bls (ckOut M (ckStart a) k)).toArray 33 (0, 0)) ∧ Mod (fun _ => False) w wr) (fun i _ => 6 - (intOf i).toNat)
  case atStart => exact ⟨0, rfl, Nat.zero_le _, Hgwz.out, Hmwz.out⟩
  case round =>
    obtain ⟨r, rfl, hr, hs, hmr⟩ := hrel
    obtain ⟨wo, rfl⟩ : ∃ wo : World, wo = wr := ⟨_, rfl⟩
    by_cases hlt : r < 6
    · have hlt' : (r : Int) < 6 := by omega
      have hl0 : (ckOut M (ckStart a) r).length = 6 := by rw [ckOut_length, ck_start_length]
      have hnx := ckOut_next M (ckStart a) r
      obtain ⟨s0, hs0⟩ : ∃ s, ckOut M (ckStart a) r = s := ⟨_, rfl⟩
      rw [hs0] at hs hl0 hnx
      have Hs := Lib.hid hs
      have Hmr := Lib.hid hmr
      have Hl0 := Lib.hid hl0
      have Hnx := Lib.hid hnx
      clear hs hmr hl0 hnx hs0
      go_wp2_with fail
      go_loopw [13] (fun i wr => ∃ k : Nat, i = .int .i64 k ∧ k ≤ 6 ∧ wr.heap[w.heap.size]? = some (.cells (bls (ckMid M s0 k)).toArray 33 (0, 0)) ∧ Mod (fun _ => False) w wr) (fun i _ => 6 - (intOf i).toNat)
      case atStart => exact ⟨0, rfl, Nat.zero_le _, Hs.out, Hmr.out⟩
      case round =>
        obtain ⟨i, rfl, hi, hs, hmr⟩ := hrel
        obtain ⟨wp, rfl⟩ : ∃ wo : World, wo = wr := ⟨_, rfl⟩
        by_cases hlti : i < 6
        · have hlti' : (i : Int) < 6 := by omega
          have hl1 : (ckMid M s0 i).length = 6 := by rw [ckMid_length]; exact Hl0.out
          have hnx1 := ckMid_next M s0 i
          obtain ⟨s1, hs1⟩ : ∃ s, ckMid M s0 i = s := ⟨_, rfl⟩
          rw [hs1] at hs hl1 hnx1
          have Hs := Lib.hid hs
          have Hmr := Lib.hid hmr
          have Hl1 := Lib.hid hl1
          have Hnx1 := Lib.hid hnx1
          clear hs hmr hl1 hnx1 hs1
          go_wp2_with fail
          go_loopw [16] (fun j wr => ∃ k : Nat, j = .int .i64 k ∧ k ≤ 6 ∧ wr.heap[w.heap.size]? = some (.cells (bls (ckIn M i s1 k)).toArray 33 (0, 0)) ∧ Mod (fun _ => False) w wr) (fun i _ => 6 - (intOf i).toNat)
          case atStart => exact ⟨0, rfl, Nat.zero_le _, Hs.out, Hmr.out⟩
          case round =>
            obtain ⟨j, rfl, hj, hs, hmr⟩ := hrel
            by_cases hltj : j < 6
            · have hltj' : (j : Int) < 6 := by omega
              have hl2 : (ckIn M i s1 j).length = 6 := by rw [ckIn_length]; exact Hl1.out
              have hnx2 := ckIn_next M i s1 j
              obtain ⟨s2, hs2⟩ : ∃ s, ckIn M i s1 j = s := ⟨_, rfl⟩
              rw [hs2] at hs hl2 hnx2
              have cj := bls_at hs (show j < s2.length by omega)
              have ci := bls_at hs (show i < s2.length by omega)
              have cm := bls_at (hmr.heap HG.out (fun h => h)) (show 6 * i + j < M.length by omega)
              have fj : wr.frozen? ⟨w.heap.size, j, none⟩ = false := frozen_of_row wr _ j _ _ hs
              have hst := fun v => bls_set hs j v
              have hmst : ∀ v, Mod (fun _ => False) w (wr.setCell ⟨w.heap.size, j, none⟩ v) := fun v => hmr.setCell (fun h => absurd h (by show ¬ w.heap.size < w.heap.size; omega)) v
              rw [Nat.mul_comm 6 i] at cm
              unfold ckStep mg at hnx2
              rw [Nat.mul_comm 6 i] at hnx2
              obtain ⟨mij, hmij⟩ : ∃ m, M.getD (i * 6 + j) false = m := ⟨_, rfl⟩
              obtain ⟨sj, hsj⟩ : ∃ m, s2.getD j false = m := ⟨_, rfl⟩
              obtain ⟨si, hsi⟩ : ∃ m, s2.getD i false = m := ⟨_, rfl⟩
              rw [hmij] at cm
              rw [hsj] at cj
              rw [hsi] at ci
              rw [hmij, hsj, hsi] at hnx2
              have Hs := Lib.hid hs
              have Hmr := Lib.hid hmr
              have Hl2 := Lib.hid hl2
              have Hnx2 := Lib.hid hnx2
              have Hst := Lib.hid hst
              have Hmst := Lib.hid hmst
              clear hs hmr hl2 hnx2 hst hmst hs2 hmij hsj hsi
              cases sj
              · cases si
                · go_wp2_with fail
                  go_roundw
                  case rel => exact ⟨j + 1, by go_num, hltj, by rw [Hnx2.out]; exact Hst.out false, Hmst.out _⟩
                  case measure => simp [intOf]; omega
                · go_wp2_with fail
                  go_roundw
                  case rel => exact ⟨j + 1, by go_num, hltj, by rw [Hnx2.out]; exact Hst.out mij, Hmst.out _⟩
                  case measure => simp [intOf]; omega
              · go_wp2_with fail
                go_roundw
                case rel => exact ⟨j + 1, by go_num, hltj, by rw [Hnx2.out]; exact Hst.out true, Hmst.out _⟩
                case measure => simp [intOf]; omega
            · obtain rfl : 6 = j := by omega
              rw [← Hnx1.out] at hs
              have Hs := Lib.hid hs
              have Hmr := Lib.hid hmr
              clear hs hmr
              go_wp2_with fail
              go_roundw
              case rel => exact ⟨i + 1, by go_num, hlti, Hs.out, Hmr.out⟩
              case measure => simp [intOf]; omega
        · obtain rfl : 6 = i := by omega
          rw [← Hnx.out] at hs
          have Hs := Lib.hid hs
          have Hmr := Lib.hid hmr
          clear hs hmr
          go_wp2_with fail
          go_roundw
          case rel => exact ⟨r + 1, by go_num, hlt, Hs.out, Hmr.out⟩
          case measure => simp [intOf]; omega
    · obtain rfl : 6 = r := by omega
      have c := bls_at hs (show b < _ by rw [ckOut_length, ck_start_length]; exact hb)
      have Hmr := Lib.hid hmr
      have Hs := Lib.hid hs
      clear hmr hs
      go_wp2_with fail
      go_ret
      exact ⟨rfl, Hmr.out⟩
end Go.Proofs.Ytnckccpcpndcmaa
