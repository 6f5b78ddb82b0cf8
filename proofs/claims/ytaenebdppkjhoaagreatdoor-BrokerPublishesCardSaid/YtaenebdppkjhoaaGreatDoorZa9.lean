/-
  value.Compare.
-/
import Derived.Test.YtaenebdppkjhoaaGreatDoorZa8
import Derived.Test.YtaenebdppkjhoaaGreatDoorZa4
import Derived.Test.YtaenebdppkjhoaaGreatDoorZa1
import Derived.Deep.QuietTactic
import Derived.BigQuiet
namespace Go.Proofs.YtaenebdppkjhoaaGreatDoor
set_option maxRecDepth 20000
open Go.RowKit

def sgn (l m : Bool) : Int := if l then -1 else if m then 1 else 0
/-- How two values of one kind stand to one another; whether they do. -/
def V.cmp (a b : V) : Int := if a.kind = 0 then sgn (decide (a.int < b.int)) (decide (b.int < a.int)) else if a.kind = 1 then sgn (fLt a.num b.num) (fLt b.num a.num) else
  if a.kind = 2 then Lib.compareBytes a.text.data.toList b.text.data.toList else sgn (!a.yes && b.yes) (a.yes && !b.yes)
def V.alike (a b : V) : Bool := a.kind == b.kind && (!a.void && !b.void)
def cmpV (a b : V) : Int × Bool := if V.alike a b = true then (V.cmp a b, true) else (0, false)

theorem sign_at (l m : Bool) (w : World) : Calls Tryz.prog 183 #[.bool l, .bool m] w fun e w' => e = .returned (.int .i64 (sgn l m)) ∧ w' = w := by
  cases l with
  | true =>
    go_enter Tryz.func183, Tryz.ntmps183
    go_wp2
    go_ret
    exact ⟨rfl, rfl⟩
  | false =>
    cases m with
    | true =>
      go_enter Tryz.func183, Tryz.ntmps183
      go_wp2
      go_ret
      exact ⟨rfl, rfl⟩
    | false =>
      go_enter Tryz.func183, Tryz.ntmps183
      go_wp2
      go_ret
      exact ⟨rfl, rfl⟩

set_option maxHeartbeats 4000000 in
theorem compare_at (a b : V) (w : World) : Calls Tryz.prog 148 #[.agg a.cells.toArray, .agg b.cells.toArray] w fun e w' => e = .returned (.tuple #[.int .i64 (cmpV a b).1, .bool (cmpV a b).2]) ∧ Mod (fun _ => False) w w' := by
  obtain ⟨wa, hwa⟩ : ∃ wa : World, w.alloc (.cells a.cells.toArray 68) = wa := ⟨_, rfl⟩
  have hmwa : Mod (fun _ => False) w wa := hwa ▸ (Mod.refl (fun _ => False) w).alloc _
  have hgwa := heap_alloc_new w (.cells a.cells.toArray 68)
  rw [hwa] at hgwa
  have hzwa : wa.heap.size = w.heap.size + 1 := by rw [← hwa]; simp
  obtain ⟨wb, hwb⟩ : ∃ wb : World, wa.alloc (.cells b.cells.toArray 68) = wb := ⟨_, rfl⟩
  have hmwb : Mod (fun _ => False) wa wb := hwb ▸ (Mod.refl (fun _ => False) wa).alloc _
  have hgwb := heap_alloc_new wa (.cells b.cells.toArray 68)
  rw [hwb] at hgwb
  have hzwb : wb.heap.size = wa.heap.size + 1 := by rw [← hwb]; simp
  have hmb := hmwa.trans hmwb (fun _ _ h => h)
  have hgA := hmwb.heap hgwa (fun h => h)
  have c0 : wb.cell? ⟨w.heap.size, 0, none⟩ = some (.int .i64 a.kind) := cell_of hgA rfl
  have c1 : wb.cell? ⟨w.heap.size, 1, none⟩ = some (.int .i64 a.int) := cell_of hgA rfl
  have c2 : wb.cell? ⟨w.heap.size, 2, none⟩ = some (.float .f64 a.num) := cell_of hgA rfl
  have c3 : wb.cell? ⟨w.heap.size, 3, none⟩ = some (.string a.text) := cell_of hgA rfl
  have c4 : wb.cell? ⟨w.heap.size, 4, none⟩ = some (.bool a.yes) := cell_of hgA rfl
  have d0 : wb.cell? ⟨wa.heap.size, 0, none⟩ = some (.int .i64 b.kind) := cell_of hgwb rfl
  have d1 : wb.cell? ⟨wa.heap.size, 1, none⟩ = some (.int .i64 b.int) := cell_of hgwb rfl
  have d2 : wb.cell? ⟨wa.heap.size, 2, none⟩ = some (.float .f64 b.num) := cell_of hgwb rfl
  have d3 : wb.cell? ⟨wa.heap.size, 3, none⟩ = some (.string b.text) := cell_of hgwb rfl
  have d4 : wb.cell? ⟨wa.heap.size, 4, none⟩ = some (.bool b.yes) := cell_of hgwb rfl
  have hlz : w.heap.size < wa.heap.size := by omega
  have hva := value_void a wb
  have Hwa := Lib.hid hwa
  have Hwb := Lib.hid hwb
  have Hmb := Lib.hid hmb
  have Hva := Lib.hid hva
  have HgA := Lib.hid hgA
  have Hgwb := Lib.hid hgwb
  clear hwa hwb hmb hva hgA hgwb hmwa hmwb hgwa hzwa hzwb
  cases hk : a.kind == b.kind with
  | false =>
    have hkn : (a.kind != b.kind) = true := by simp [bne, hk]
    have E := Lib.hid (show cmpV a b = (0, false) by unfold cmpV V.alike; rw [hk]; rfl)
    go_enter Tryz.func148, Tryz.ntmps148
    go_wp2_with (first | (rw [show w.alloc _ = wa from Hwa.out]) | (rw [show wa.alloc _ = wb from Hwb.out]) | fail)
    go_ret2
    exact ⟨by rw [E.out]; rfl, Hmb.out⟩
  | true =>
  have hkn : (a.kind != b.kind) = false := by simp [bne, hk]
  cases hv : a.void with
  | true =>
    have E := Lib.hid (show cmpV a b = (0, false) by unfold cmpV V.alike; rw [hk, hv]; rfl)
    rw [hv] at Hva
    clear hv
    go_enter Tryz.func148, Tryz.ntmps148
    go_wp2_with (first | (rw [show w.alloc _ = wa from Hwa.out]) | (rw [show wa.alloc _ = wb from Hwb.out]) | fail)
    refine Hva.out.mono ?_
    rintro e w2 ⟨rfl, hm2⟩
    have Hm2 := Lib.hid (Hmb.out.trans hm2 (fun _ _ h => h))
    clear hm2
    go_wp2
    go_ret2
    exact ⟨by rw [E.out]; rfl, Hm2.out⟩
  | false =>
  have Hhk := Lib.hid hk
  have Hhv := Lib.hid hv
  rw [hv] at Hva
  clear hv hk
  go_enter Tryz.func148, Tryz.ntmps148
  go_wp2_with (first | (rw [show w.alloc _ = wa from Hwa.out]) | (rw [show wa.alloc _ = wb from Hwb.out]) | fail)
  refine Hva.out.mono ?_
  rintro e w2 ⟨rfl, hm2⟩
  have hA2 := hm2.heap HgA.out (fun h => h)
  have hB2 := hm2.heap Hgwb.out (fun h => h)
  have hm02 := Hmb.out.trans hm2 (fun _ _ h => h)
  have d0 : w2.cell? ⟨wa.heap.size, 0, none⟩ = some (.int .i64 b.kind) := cell_of hB2 rfl
  have d1 : w2.cell? ⟨wa.heap.size, 1, none⟩ = some (.int .i64 b.int) := cell_of hB2 rfl
  have d2 : w2.cell? ⟨wa.heap.size, 2, none⟩ = some (.float .f64 b.num) := cell_of hB2 rfl
  have d3 : w2.cell? ⟨wa.heap.size, 3, none⟩ = some (.string b.text) := cell_of hB2 rfl
  have d4 : w2.cell? ⟨wa.heap.size, 4, none⟩ = some (.bool b.yes) := cell_of hB2 rfl
  have hvb := value_void b w2
  have HA2 := Lib.hid hA2
  have HB2 := Lib.hid hB2
  have Hm02 := Lib.hid hm02
  have Hvb := Lib.hid hvb
  clear hA2 hB2 hm02 hvb hm2 c0 c1 c2 c3 c4
  cases hv2 : b.void with
  | true =>
    have E := Lib.hid (show cmpV a b = (0, false) by unfold cmpV V.alike; rw [Hhk.out, Hhv.out, hv2]; rfl)
    rw [hv2] at Hvb
    clear hv2
    go_wp2_with fail
    refine Hvb.out.mono ?_
    rintro e w3 ⟨rfl, hm3⟩
    have Hm3 := Lib.hid (Hm02.out.trans hm3 (fun _ _ h => h))
    clear hm3
    go_wp2
    go_ret2
    exact ⟨by rw [E.out]; rfl, Hm3.out⟩
  | false =>
  have E := Lib.hid (show cmpV a b = (V.cmp a b, true) by unfold cmpV V.alike; rw [Hhk.out, Hhv.out, hv2]; rfl)
  rw [hv2] at Hvb
  clear hv2
  go_wp2_with fail
  refine Hvb.out.mono ?_
  rintro e w3 ⟨rfl, hm3⟩
  have hA3 := hm3.heap HA2.out (fun h => h)
  have hB3 := hm3.heap HB2.out (fun h => h)
  have c0 : w3.cell? ⟨w.heap.size, 0, none⟩ = some (.int .i64 a.kind) := cell_of hA3 rfl
  have c1 : w3.cell? ⟨w.heap.size, 1, none⟩ = some (.int .i64 a.int) := cell_of hA3 rfl
  have c2 : w3.cell? ⟨w.heap.size, 2, none⟩ = some (.float .f64 a.num) := cell_of hA3 rfl
  have c3 : w3.cell? ⟨w.heap.size, 3, none⟩ = some (.string a.text) := cell_of hA3 rfl
  have c4 : w3.cell? ⟨w.heap.size, 4, none⟩ = some (.bool a.yes) := cell_of hA3 rfl
  have d1 : w3.cell? ⟨wa.heap.size, 1, none⟩ = some (.int .i64 b.int) := cell_of hB3 rfl
  have d2 : w3.cell? ⟨wa.heap.size, 2, none⟩ = some (.float .f64 b.num) := cell_of hB3 rfl
  have d3 : w3.cell? ⟨wa.heap.size, 3, none⟩ = some (.string b.text) := cell_of hB3 rfl
  have d4 : w3.cell? ⟨wa.heap.size, 4, none⟩ = some (.bool b.yes) := cell_of hB3 rfl
  have hm03 := Hm02.out.trans hm3 (fun _ _ h => h)
  have HA3 := Lib.hid hA3
  have HB3 := Lib.hid hB3
  have Hm03 := Lib.hid hm03
  clear hA3 hB3 hm03 hm3 Hvb Hva HA2 HB2
  cases h0 : a.kind == 0 with
  | true =>
    have E2 := Lib.hid (show V.cmp a b = _ from if_pos (beq_iff_eq.1 h0))
    go_wp2_with fail
    refine (sign_at _ _ w3).mono ?_
    rintro e w4 ⟨rfl, rfl⟩
    go_wp2
    go_ret2
    exact ⟨by rw [E.out, E2.out]; rfl, Hm03.out⟩
  | false =>
  have h0' : ¬ a.kind = 0 := by simpa using h0
  have E0 := Lib.hid (show V.cmp a b = _ from if_neg h0')
  clear h0'
  cases h1 : a.kind == 1 with
  | true =>
    have E2 := Lib.hid (E0.out.trans (if_pos (beq_iff_eq.1 h1)))
    go_wp2_with fail
    go_quiet ((first | (go_at_call 184; exact Calls.quiet_of_same (less_at _ _ _)) | (go_at_call 183; exact Calls.quiet_of_same (sign_at _ _ _))))
    go_wp2
    go_ret2
    exact ⟨by rw [E.out, E2.out]; rfl, Hm03.out.drewN _⟩
  | false =>
  have h1' : ¬ a.kind = 1 := by simpa using h1
  have E1 := Lib.hid (E0.out.trans (if_neg h1'))
  clear h1'
  cases h2 : a.kind == 2 with
  | true =>
    have E2 := Lib.hid (E1.out.trans (if_pos (beq_iff_eq.1 h2)))
    go_wp2_with fail
    refine (cmp_at a.text b.text w3).mono ?_
    rintro e w4 ⟨rfl, rfl⟩
    go_wp2
    go_ret2
    exact ⟨by rw [E.out, E2.out]; rfl, Hm03.out⟩
  | false =>
    have h2' : ¬ a.kind = 2 := by simpa using h2
    have E2 := Lib.hid (E1.out.trans (if_neg h2'))
    clear h2'
    cases hya : a.yes with
    | true =>
      rw [hya] at E2 c4
      cases hyb : b.yes with
      | true =>
        rw [hyb] at E2 d4
        go_wp2_with fail
        refine (sign_at _ _ w3).mono ?_
        rintro e w4 ⟨rfl, rfl⟩
        go_wp2
        go_ret2
        exact ⟨by rw [E.out, E2.out]; rfl, Hm03.out⟩
      | false =>
        rw [hyb] at E2 d4
        go_wp2_with fail
        refine (sign_at _ _ w3).mono ?_
        rintro e w4 ⟨rfl, rfl⟩
        go_wp2
        go_ret2
        exact ⟨by rw [E.out, E2.out]; rfl, Hm03.out⟩
    | false =>
      rw [hya] at E2 c4
      cases hyb : b.yes with
      | true =>
        rw [hyb] at E2 d4
        go_wp2_with fail
        refine (sign_at _ _ w3).mono ?_
        rintro e w4 ⟨rfl, rfl⟩
        go_wp2
        go_ret2
        exact ⟨by rw [E.out, E2.out]; rfl, Hm03.out⟩
      | false =>
        rw [hyb] at E2 d4
        go_wp2_with fail
        refine (sign_at _ _ w3).mono ?_
        rintro e w4 ⟨rfl, rfl⟩
        go_wp2
        go_ret2
        exact ⟨by rw [E.out, E2.out]; rfl, Hm03.out⟩
end Go.Proofs.YtaenebdppkjhoaaGreatDoor
