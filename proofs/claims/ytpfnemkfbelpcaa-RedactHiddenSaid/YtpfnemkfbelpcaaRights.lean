/-
  The law's Rights: those rules that may be.
-/
import Derived.Test.YtpfnemkfbelpcaaAclr
import Derived.Test.YtpfnemkfbelpcaaCopy
namespace Go.Proofs.Ytpfnemkfbelpcaa
set_option maxRecDepth 20000
open Go.RowKit

theorem rules_T : SliceT Try.prog 22 35 8 104 := sliceT (by kernel_rfl) (by kernel_rfl)

theorem filter_take {α : Type} (p : α → Bool) {l : List α} {j : Nat} {x : α} (h : l[j]? = some x) : (l.take (j + 1)).filter p = (l.take j).filter p ++ (if p x = true then [x] else []) := by
  rw [List.take_add_one, List.filter_append, h]
  congr 1
  simp only [Option.toList, List.filter_cons, List.filter_nil]

set_option maxHeartbeats 4000000 in
theorem rights_at (w : World) (v : Value) (l : List Ru) (hv : RuSl w v l) (hll : l.length ≤ 1000000) :
    Calls Try.prog 14 #[v] w fun e w' => ∃ ov, e = .returned ov ∧ OwnSl w' 35 8 ov (l.filter Ru.rightB).length (rus (l.filter Ru.rightB)) ∧ (∀ b, ov.ownBlock = some b → w.heap.size ≤ b) ∧ Mod (fun _ => False) w w' := by
  obtain ⟨a, cap, rfl, hcap⟩ : ∃ a c, v = .slice a l.length c ∧ l.length ≤ c := by obtain ⟨-, a, c, h, h2, -⟩ := hv.rd; exact ⟨a, c, h, h2⟩
  have hll' : (l.length : Int) ≤ 1000000 := by omega
  have hcap' : (l.length : Int) ≤ cap := by omega
  have Hv := Lib.hid hv
  clear hv
  go_enter Try.func14, Try.ntmps14
  go_wp2_with fail
  go_loopw [3, 8] (fun ov i wr => ∃ j : Nat, i = .int .i64 j ∧ j ≤ l.length ∧ OwnSl wr 35 8 ov ((l.take j).filter Ru.rightB).length (rus ((l.take j).filter Ru.rightB)) ∧ (∀ b, ov.ownBlock = some b → w.heap.size ≤ b) ∧ Mod (fun _ => False) w wr) (fun _ i _ => l.length - (intOf i).toNat)
  case atStart => exact ⟨0, rfl, Nat.zero_le _, OwnSl.nil _ _ _, fun b hb => (by cases hb), Mod.refl _ _⟩
  case round =>
    obtain ⟨j, rfl, hj, hown, hfr, hmr⟩ := hrel
    by_cases hlt : j < l.length
    · have hlt' : (j : Int) < l.length := by omega
      obtain ⟨x, hxj⟩ : ∃ x, l[j]? = some x := ⟨_, List.getElem?_eq_getElem hlt⟩
      have hxm := List.mem_of_getElem? hxj
      obtain ⟨g, off, rfl, hf⟩ : ∃ g off, a = some ⟨g, off, none⟩ ∧ CellsAt wr g (off + j * 8) x.cells := rd_rule (Hv.out.mod hmr) hxj
      have hnx := filter_take Ru.rightB hxj
      have hle : ((l.take j).filter Ru.rightB).length ≤ j := Nat.le_trans (List.length_filter_le _ _) (List.length_take_le _ _)
      obtain ⟨acc, hacc⟩ : ∃ q, (l.take j).filter Ru.rightB = q := ⟨_, rfl⟩
      rw [hacc] at hown hnx hle
      obtain ⟨nx, hnx'⟩ : ∃ q, (l.take (j + 1)).filter Ru.rightB = q := ⟨_, rfl⟩
      rw [hnx'] at hnx
      obtain ⟨oa, oc, rfl, -⟩ := hown.shape
      obtain ⟨wz, hwz⟩ : ∃ wz : World, wr.alloc (.cells x.cells.toArray 35) = wz := ⟨_, rfl⟩
      have hmwz : Mod (fun _ => False) wr wz := hwz ▸ (Mod.refl (fun _ => False) wr).alloc _
      have hgwz := heap_alloc_new wr (.cells x.cells.toArray 35)
      rw [hwz] at hgwz
      have hzwz : wz.heap.size = wr.heap.size + 1 := by rw [← hwz]; simp
      have hmz := hmr.trans hmwz (fun _ _ h => h)
      have har := acl_right x wz ((Hv.out.ok x hxm).mod hmz)
      have hownz := hown.mod hmwz (fun _ _ h => h)
      have Hxj := Lib.hid hxj
      have Hxm := Lib.hid hxm
      have Hf := Lib.hid hf
      have Hwz := Lib.hid hwz
      have Hgwz := Lib.hid hgwz
      have Hmz := Lib.hid hmz
      have Har := Lib.hid har
      have Hownz := Lib.hid hownz
      have Hfr := Lib.hid hfr
      have Hnx := Lib.hid hnx
      have Hnx' := Lib.hid hnx'
      clear hxj hxm hf hwz hgwz hmz har hownz hfr hnx hnx' hzwz hmwz hown hmr hacc
      go_wp2_with (first | ((with_reducible refine wpList_load_lit 35 (.tmp 10) ?_); refine ⟨g, off + j * 8, rfl, x.cells, Hf.out, by kernel_rfl, by kernel_rfl, ?_⟩) | ((with_reducible refine wpList_store_lit 35 (.tmp 5) (.tmp 11) ?_); refine ⟨rfl, x.cells, rfl, rfl, by kernel_rfl, rfl, ?_⟩; rw [Hwz.out]) | ((with_reducible refine wpList_load_lit 35 (.tmp 5) ?_); refine ⟨wr.heap.size, 0, rfl, x.cells, CellsAt.row Hgwz.out, by kernel_rfl, by kernel_rfl, ?_⟩) | fail)
      refine Har.out.mono ?_
      rintro e w3 ⟨rfl, hm3⟩
      have hm03 := Hmz.out.trans hm3 (fun _ _ h => h)
      have hown3 := Hownz.out.mod hm3 (fun _ _ h => h)
      have hg3 := hm3.heap Hgwz.out (fun h => h)
      have Hm03 := Lib.hid hm03
      have Hown3 := Lib.hid hown3
      have Hg3 := Lib.hid hg3
      clear hm03 hown3 hg3 hm3 Hownz Hmz Hgwz Har
      cases hs : x.rightB with
      | false =>
        have hnx2 : nx = acc := by rw [Hnx.out, if_neg (by rw [hs]; decide), List.append_nil]
        have hown4 := Hown3.out
        rw [← hnx2, ← Hnx'.out] at hown4
        have hlen : acc.length = ((l.take (j + 1)).filter Ru.rightB).length := by rw [Hnx'.out, hnx2]
        have Hown4 := Lib.hid hown4
        have Hlen := Lib.hid hlen
        clear hown4 hlen hs hnx2
        go_wp2_with fail
        go_roundw
        case rel => exact ⟨j + 1, by go_num, hlt, by rw [Hlen.out]; exact Hown4.out, Hfr.out, Hm03.out⟩
        case measure => simp [intOf]; omega
      | true =>
        have hnx2 : nx = acc ++ [x] := by rw [Hnx.out, if_pos hs]
        obtain ⟨wS, hwS⟩ : ∃ wS : World, w3.alloc (.cells x.cells.toArray 35) = wS := ⟨_, rfl⟩
        have hmwS : Mod (fun _ => False) w3 wS := hwS ▸ (Mod.refl (fun _ => False) w3).alloc _
        have hgwS := heap_alloc_new w3 (.cells x.cells.toArray 35)
        rw [hwS] at hgwS
        have hzwS : wS.heap.size = w3.heap.size + 1 := by rw [← hwS]; simp
        have hrd : RdSl wS 8 (.slice (some ⟨w3.heap.size, 0, none⟩) 1 1) 1 x.cells := hwS ▸ RdSl.one w3 x.cells 35 rfl
        have hwS' : w3.alloc (.cells #[.int .i64 x.kind, .int .i64 x.tenant, .string x.who, .int .i64 x.broker, .string x.sc, .slice x.ca x.cs.length x.cc, .string x.name, .int .i64 x.at_] 35) = wS := hwS
        have hownS := Hown3.out.mod hmwS (fun _ _ h => h)
        have hm0S := Hm03.out.trans hmwS (fun _ _ h => h)
        have hone : ∀ u ∈ x.cells, u.oneCell' = true := fun u hu => List.all_eq_true.1 (show x.cells.all (·.oneCell') = true from rfl) u hu
        have hlen : acc.length + 1 = ((l.take (j + 1)).filter Ru.rightB).length := by rw [Hnx'.out, hnx2]; simp
        have hrus : rus acc ++ x.cells = rus ((l.take (j + 1)).filter Ru.rightB) := by rw [Hnx'.out, hnx2, rus_append, rus_cons]; simp [rus]
        have Hrd := Lib.hid hrd
        have HwS' := Lib.hid hwS'
        have HownS := Lib.hid hownS
        have Hm0S := Lib.hid hm0S
        have Hone := Lib.hid hone
        have Hlen := Lib.hid hlen
        have Hrus := Lib.hid hrus
        clear hrd hwS' hownS hm0S hone hlen hrus hwS hmwS hgwS hzwS hs hnx2
        go_wp2_with (first | (rw [show w3.alloc _ = wS from HwS'.out]) | ((with_reducible refine wpList_load_lit 35 (.tmp 5) ?_); refine ⟨wr.heap.size, 0, rfl, [.int .i64 x.kind, .int .i64 x.tenant, .string x.who, .int .i64 x.broker, .string x.sc, .slice x.ca x.cs.length x.cc, .string x.name, .int .i64 x.at_], CellsAt.row Hg3.out, by kernel_rfl, by kernel_rfl, ?_⟩) | ((with_reducible refine wpList_append_lit (.tmp 14) (.tmp 16) 22 ?_); refine ⟨rfl, 35, 8, 104, rules_T, .slice oa acc.length oc, acc.length, rus acc, rfl, HownS.out, _, 1, x.cells, rfl, Hrd.out, Hone.out, by omega, by unfold maxLen; omega, ?_⟩; intro ad cap2 w4 hA; have HA := Lib.hid hA; clear hA) | fail)
        have hown5 := HA.out.1
        rw [Hrus.out] at hown5
        have hfr5 : ∀ b, (Value.slice ad (acc.length + 1) cap2).ownBlock = some b → w.heap.size ≤ b := fun b hb => by
          rcases HA.out.2.2 with h | ⟨k, h, hk⟩
          · exact Hfr.out b (by rw [← h]; exact hb)
          · rw [h] at hb; cases hb
            have := Hm0S.out.size
            omega
        have hm05 : Mod (fun _ => False) w w4 := Hm0S.out.upon HA.out.2.1 (fun b hb => .inr (Hfr.out b hb))
        have Hown5 := Lib.hid hown5
        have Hfr5 := Lib.hid hfr5
        have Hm05 := Lib.hid hm05
        clear hown5 hfr5 hm05 HA
        go_roundw
        case rel => exact ⟨j + 1, by go_num, hlt, by rw [← Hlen.out]; exact Hown5.out, Hfr5.out, Hm05.out⟩
        case measure => simp [intOf]; omega
    · obtain rfl : j = l.length := by omega
      rw [List.take_length] at hown
      obtain ⟨oa, oc, rfl, -⟩ := hown.shape
      have Hown := Lib.hid hown
      have Hfr := Lib.hid hfr
      have Hmr := Lib.hid hmr
      clear hown hfr hmr
      go_wp2
      go_ret
      exact ⟨_, rfl, Hown.out, Hfr.out, Hmr.out⟩
end Go.Proofs.Ytpfnemkfbelpcaa
