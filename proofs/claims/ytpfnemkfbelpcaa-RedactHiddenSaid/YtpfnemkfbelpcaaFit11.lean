/-
  Chapter 11's anchor.
-/
import Derived.Test.YtpfnemkfbelpcaaSeen
import Derived.Test.YtpfnemkfbelpcaaScope
namespace Go.Proofs.Ytpfnemkfbelpcaa
set_option maxRecDepth 20000
open Go.RowKit

theorem keepA_hid (N : List (List UInt8)) (L : List Att) : keepA (hidL N) L = keepA N L := by
  unfold keepA
  congr 1
  funext a
  rw [show decide (a.name.data.toList ∈ hidL N) = decide (a.name.data.toList ∈ N) from decide_eq_decide.2 hidL_mem]
theorem hidL_nil : hidL [] = [] := by
  have h := hidL_len []
  exact List.eq_nil_of_length_eq_zero (Nat.le_zero.1 h)

def rux : Ru := ⟨3, 0, ⟨#[112]⟩, 0, ⟨#[97]⟩, none, 0, ⟨#[120]⟩, 0, []⟩
def atx : Att := ⟨⟨#[120]⟩, ⟨0, 0, 0, ⟨#[]⟩, false⟩⟩
def aty : Att := ⟨⟨#[121]⟩, ⟨0, 0, 0, ⟨#[]⟩, false⟩⟩
theorem hid_ab : hidR [rux] 0 ⟨#[112]⟩ ⟨#[97, 47, 98]⟩ = [[120]] := by decide +kernel
theorem hid_b : hidR [rux] 0 ⟨#[112]⟩ ⟨#[98]⟩ = [] := by decide +kernel
theorem seen_ab : seenA [rux] 0 ⟨#[112]⟩ ⟨#[97, 47, 98]⟩ [atx, aty] = [aty] := by
  unfold seenA
  rw [keepA_hid, hid_ab]
  rfl
theorem scope_a : scRight ⟨#[97]⟩ = true := by decide +kernel

set_option maxHeartbeats 4000000 in
theorem fit11_at (w : World) : Calls Try.prog 11 #[] w fun e w' => e = .returned (.bool true) ∧ Mod (fun _ => False) w w' := by
  obtain ⟨wa, hwa⟩ : ∃ wa : World, w.alloc (.cells (rus [rux]).toArray 35) = wa := ⟨_, rfl⟩
  have hmwa : Mod (fun _ => False) w wa := hwa ▸ (Mod.refl (fun _ => False) w).alloc _
  have hgwa := heap_alloc_new w (.cells (rus [rux]).toArray 35)
  rw [hwa] at hgwa
  have hzwa : wa.heap.size = w.heap.size + 1 := by rw [← hwa]; simp
  obtain ⟨wb, hwb⟩ : ∃ wb : World, wa.alloc (.cells (atts [atx, aty]).toArray 48) = wb := ⟨_, rfl⟩
  have hmwb : Mod (fun _ => False) wa wb := hwb ▸ (Mod.refl (fun _ => False) wa).alloc _
  have hgwb := heap_alloc_new wa (.cells (atts [atx, aty]).toArray 48)
  rw [hwb] at hgwb
  have hzwb : wb.heap.size = wa.heap.size + 1 := by rw [← hwb]; simp
  have hmb := hmwa.trans hmwb (fun _ _ h => h)
  have hg := hmwb.heap hgwa (fun h => h)
  have hv : RuSl wb (.slice (some ⟨w.heap.size, 0, none⟩) 1 1) [rux] := ⟨⟨rfl, _, _, rfl, Nat.le_refl _, (fun h => by cases h), fun b hb _ => ⟨_, 0, (by cases hb; rfl), fun j u hu => by rw [Nat.zero_add]; exact cell_of hg (by simpa using hu)⟩⟩, fun r hr => by
    rw [List.mem_singleton.1 hr]
    exact ⟨⟨rfl, none, 0, rfl, Nat.le_refl _, fun _ => rfl, fun b hb => by cases hb⟩, by decide, by decide, by decide, by decide, fun c hc => by cases hc⟩⟩
  have hL : RdSl wb 6 (.slice (some ⟨wa.heap.size, 0, none⟩) 2 2) 2 (atts [atx, aty]) := ⟨rfl, _, _, rfl, Nat.le_refl _, (fun h => by cases h), fun b hb _ => ⟨_, 0, (by cases hb; rfl), fun j u hu => by rw [Nat.zero_add]; exact cell_of hgwb (by simpa using hu)⟩⟩
  have he := revent_at wb (.slice (some ⟨w.heap.size, 0, none⟩) 1 1) [rux] hv (by decide) 0 ⟨#[112]⟩ ⟨#[97, 47, 98]⟩ (by decide) (some ⟨wa.heap.size, 0, none⟩) 2 [atx, aty] hL (by decide)
  rw [seen_ab] at he
  have hwa' : w.alloc (.cells #[.int .i64 3, .int .i64 0, .string ⟨#[112]⟩, .int .i64 0, .string ⟨#[97]⟩, .slice none 0 0, .string ⟨#[120]⟩, .int .i64 0] 35) = wa := hwa
  have hwb' : wa.alloc (.cells #[.string ⟨#[120]⟩, .int .i64 0, .int .i64 0, .float .f64 0, .string ⟨#[]⟩, .bool false, .string ⟨#[121]⟩, .int .i64 0, .int .i64 0, .float .f64 0, .string ⟨#[]⟩, .bool false] 48) = wb := hwb
  have Hmb := Lib.hid hmb
  have Hv := Lib.hid hv
  have He := Lib.hid he
  have Hwa' := Lib.hid hwa'
  have Hwb' := Lib.hid hwb'
  clear hmb hv he hwa' hwb' hwa hwb hmwa hmwb hgwa hgwb hzwa hzwb hL hg
  go_enter Try.func11, Try.ntmps11
  go_wp2_with (first | (rw [Hwa'.out]) | (rw [Hwb'.out]) | fail)
  refine He.out.mono ?_
  rintro e w1 ⟨av, rfl, hown, -, hm1⟩
  obtain ⟨oa, oc, rfl, hoc0⟩ := hown.shape
  have hoc : (1 : Int) ≤ oc := by have : 1 ≤ oc := hoc0; omega
  obtain ⟨wc, hwc⟩ : ∃ wc : World, w1.alloc (.cells #[.string ⟨#[97, 47, 98]⟩, .slice oa 1 oc] 40) = wc := ⟨_, rfl⟩
  have hmwc : Mod (fun _ => False) w1 wc := hwc ▸ (Mod.refl (fun _ => False) w1).alloc _
  have hgwc := heap_alloc_new w1 (.cells #[.string ⟨#[97, 47, 98]⟩, .slice oa 1 oc] 40)
  rw [hwc] at hgwc
  have hzwc : wc.heap.size = w1.heap.size + 1 := by rw [← hwc]; simp
  have hm0c := Hmb.out.trans (hm1.trans hmwc (fun _ _ h => h)) (fun _ _ h => h)
  obtain ⟨g, off, rfl, hf⟩ : ∃ g off, oa = some ⟨g, off, none⟩ ∧ CellsAt wc g (off + 0 * 6) aty.cells := rd_att (hown.rd.mod hmwc (fun _ _ h => h)) rfl
  have c1 : wc.cell? ⟨w1.heap.size, 1, none⟩ = some (.slice (some ⟨g, off, none⟩) 1 oc) := cell_of hgwc rfl
  have n0 : wc.cell? ⟨g, off, none⟩ = some (.string ⟨#[121]⟩) := hf 0 _ rfl
  have hvc := Hv.out.mod (hm1.trans hmwc (fun _ _ h => h))
  have hh := hidden_at wc (.slice (some ⟨w.heap.size, 0, none⟩) 1 1) [rux] hvc (by decide) 0 ⟨#[112]⟩ ⟨#[98]⟩ (by decide)
  rw [hid_b, hidL_nil] at hh
  have Hm0c := Lib.hid hm0c
  have Hh := Lib.hid hh
  have Hwc := Lib.hid hwc
  clear hm0c hh hwc hown hf hvc hmwc hgwc hzwc hm1 Hv He
  go_wp2_with (first | ((with_reducible refine wpList_store_lit 40 (.tmp 2) (.tmp 11) ?_); refine ⟨rfl, [.string ⟨#[97, 47, 98]⟩, .slice (some ⟨g, off, none⟩) 1 oc], rfl, rfl, by kernel_rfl, rfl, ?_⟩; rw [Hwc.out]) | fail)
  refine Hh.out.mono ?_
  rintro e w2 ⟨hv2, rfl, hown2, -, hm2⟩
  obtain ⟨ha, hc, rfl, -⟩ := hown2.shape
  have hm02 := Hm0c.out.trans hm2 (fun _ _ h => h)
  have hsr := scope_right ⟨#[97]⟩ (by decide) w2
  rw [scope_a] at hsr
  have Hm02 := Lib.hid hm02
  have Hsr := Lib.hid hsr
  clear hm02 hsr hm2 Hh Hm0c hown2 c1 n0
  go_wp2_with fail
  refine Hsr.out.mono ?_
  rintro e w3 ⟨rfl, hm3⟩
  have hm03 := Hm02.out.trans hm3 (fun _ _ h => h)
  have hri := rights_at w3 (.slice none 0 0) [] ⟨⟨rfl, none, 0, rfl, Nat.le_refl _, (fun _ => rfl), fun b hb => by cases hb⟩, fun r hr => by cases hr⟩ (by decide)
  have Hm03 := Lib.hid hm03
  have Hri := Lib.hid hri
  clear hm03 hri hm3 Hsr Hm02
  go_wp2_with fail
  refine Hri.out.mono ?_
  rintro e w4 ⟨rv, rfl, hown4, -, hm4⟩
  obtain ⟨ra, rc, rfl, -⟩ := hown4.shape
  have hm04 := Hm03.out.trans hm4 (fun _ _ h => h)
  have Hm04 := Lib.hid hm04
  clear hm04 hm4 Hri Hm03 hown4
  go_wp2
  go_ret
  exact ⟨rfl, Hm04.out⟩
end Go.Proofs.Ytpfnemkfbelpcaa
