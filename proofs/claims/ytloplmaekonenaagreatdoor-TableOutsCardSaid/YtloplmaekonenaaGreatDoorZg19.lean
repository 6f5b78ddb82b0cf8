/-
  value.Compare.
  cond.Holds.
  copy into a row that is plain memory; append of so many noughts where there is no room; a list shifted in place.
  cond.Void; slices.IndexFunc and ContainsFunc of conditions over any call; filter.Void.
  value.Same.
-/
import Derived.Test.YtloplmaekonenaaGreatDoorZg18
import Derived.Test.YtloplmaekonenaaGreatDoorZg10
import Derived.Test.YtloplmaekonenaaGreatDoorZg1
import Derived.Deep.QuietTactic
import Derived.BigQuiet
import Derived.Test.YtloplmaekonenaaGreatDoorZg15
import Derived.Laws.IdiomCopy
import Derived.Lib.Overlaps
import Derived.Test.YtloplmaekonenaaGreatDoorZg2
namespace Go.Proofs.YtloplmaekonenaaGreatDoor
set_option maxRecDepth 20000
open Go.RowKit

def sgn (l m : Bool) : Int := if l then -1 else if m then 1 else 0
/-- How two values of one kind stand to one another; whether they do. -/
def V.cmp (a b : V) : Int := if a.kind = 0 then sgn (decide (a.int < b.int)) (decide (b.int < a.int)) else if a.kind = 1 then sgn (fLt a.num b.num) (fLt b.num a.num) else
  if a.kind = 2 then Lib.compareBytes a.text.data.toList b.text.data.toList else sgn (!a.yes && b.yes) (a.yes && !b.yes)
def V.alike (a b : V) : Bool := a.kind == b.kind && (!a.void && !b.void)
def cmpV (a b : V) : Int × Bool := if V.alike a b = true then (V.cmp a b, true) else (0, false)

theorem sign_at (l m : Bool) (w : World) : Calls Tryz.prog 124 #[.bool l, .bool m] w fun e w' => e = .returned (.int .i64 (sgn l m)) ∧ w' = w := by
  cases l with
  | true =>
    go_enter Tryz.func124, Tryz.ntmps124
    go_wp2
    go_ret
    exact ⟨rfl, rfl⟩
  | false =>
    cases m with
    | true =>
      go_enter Tryz.func124, Tryz.ntmps124
      go_wp2
      go_ret
      exact ⟨rfl, rfl⟩
    | false =>
      go_enter Tryz.func124, Tryz.ntmps124
      go_wp2
      go_ret
      exact ⟨rfl, rfl⟩

set_option maxHeartbeats 4000000 in
theorem compare_at (a b : V) (w : World) : Calls Tryz.prog 82 #[.agg a.cells.toArray, .agg b.cells.toArray] w fun e w' => e = .returned (.tuple #[.int .i64 (cmpV a b).1, .bool (cmpV a b).2]) ∧ Mod (fun _ => False) w w' := by
  obtain ⟨wa, hwa⟩ : ∃ wa : World, w.alloc (.cells a.cells.toArray 79) = wa := ⟨_, rfl⟩
  have hmwa : Mod (fun _ => False) w wa := hwa ▸ (Mod.refl (fun _ => False) w).alloc _
  have hgwa := heap_alloc_new w (.cells a.cells.toArray 79)
  rw [hwa] at hgwa
  have hzwa : wa.heap.size = w.heap.size + 1 := by rw [← hwa]; simp
  obtain ⟨wb, hwb⟩ : ∃ wb : World, wa.alloc (.cells b.cells.toArray 79) = wb := ⟨_, rfl⟩
  have hmwb : Mod (fun _ => False) wa wb := hwb ▸ (Mod.refl (fun _ => False) wa).alloc _
  have hgwb := heap_alloc_new wa (.cells b.cells.toArray 79)
  rw [hwb] at hgwb
  have hzwb : wb.heap.size = wa.heap.size + 1 := by rw [← hwb]; simp
  have hmb := hmwa.trans hmwb (fun _ _ h => h)
  have hgA := hmwb.heap hgwa (fun h => h)
  have c0 : wb.cell? ⟨w.heap.size, 0, none⟩ = some (.int .i64 a.kind) := cell_of hgA rfl
  have c1 : wb.cell? ⟨w.heap.size, 1, none⟩ = some (.int .i64 a.int) := cell_of hgA rfl
  have c2 : wb.cell? ⟨w.heap.size, 2, none⟩ = some (.float .f64 a.num) := cell_of hgA rfl
  have c3 : wb.cell? ⟨w.heap.size, 3, none⟩ = some (.string a.text) := cell_of hgA rfl
  have c4 : wb.cell? ⟨w.heap.size, 4, none⟩ = some (.bool a.yes) := cell_of hgA rfl
  have d0 : wb.cell? ⟨wa.heap.size, 0, none⟩ = some (.int .i64 b.kind) := cell_of hgwb rfl
  have d1 : wb.cell? ⟨wa.heap.size, 1, none⟩ = some (.int .i64 b.int) := cell_of hgwb rfl
  have d2 : wb.cell? ⟨wa.heap.size, 2, none⟩ = some (.float .f64 b.num) := cell_of hgwb rfl
  have d3 : wb.cell? ⟨wa.heap.size, 3, none⟩ = some (.string b.text) := cell_of hgwb rfl
  have d4 : wb.cell? ⟨wa.heap.size, 4, none⟩ = some (.bool b.yes) := cell_of hgwb rfl
  have hlz : w.heap.size < wa.heap.size := by omega
  have hva := value_void a wb
  have Hwa := Lib.hid hwa
  have Hwb := Lib.hid hwb
  have Hmb := Lib.hid hmb
  have Hva := Lib.hid hva
  have HgA := Lib.hid hgA
  have Hgwb := Lib.hid hgwb
  clear hwa hwb hmb hva hgA hgwb hmwa hmwb hgwa hzwa hzwb
  cases hk : a.kind == b.kind with
  | false =>
    have hkn : (a.kind != b.kind) = true := by simp [bne, hk]
    have E := Lib.hid (show cmpV a b = (0, false) by unfold cmpV V.alike; rw [hk]; rfl)
    go_enter Tryz.func82, Tryz.ntmps82
    go_wp2_with (first | (rw [show w.alloc _ = wa from Hwa.out]) | (rw [show wa.alloc _ = wb from Hwb.out]) | fail)
    go_ret2
    exact ⟨by rw [E.out]; rfl, Hmb.out⟩
  | true =>
  have hkn : (a.kind != b.kind) = false := by simp [bne, hk]
  cases hv : a.void with
  | true =>
    have E := Lib.hid (show cmpV a b = (0, false) by unfold cmpV V.alike; rw [hk, hv]; rfl)
    rw [hv] at Hva
    clear hv
    go_enter Tryz.func82, Tryz.ntmps82
    go_wp2_with (first | (rw [show w.alloc _ = wa from Hwa.out]) | (rw [show wa.alloc _ = wb from Hwb.out]) | fail)
    refine Hva.out.mono ?_
    rintro e w2 ⟨rfl, hm2⟩
    have Hm2 := Lib.hid (Hmb.out.trans hm2 (fun _ _ h => h))
    clear hm2
    go_wp2
    go_ret2
    exact ⟨by rw [E.out]; rfl, Hm2.out⟩
  | false =>
  have Hhk := Lib.hid hk
  have Hhv := Lib.hid hv
  rw [hv] at Hva
  clear hv hk
  go_enter Tryz.func82, Tryz.ntmps82
  go_wp2_with (first | (rw [show w.alloc _ = wa from Hwa.out]) | (rw [show wa.alloc _ = wb from Hwb.out]) | fail)
  refine Hva.out.mono ?_
  rintro e w2 ⟨rfl, hm2⟩
  have hA2 := hm2.heap HgA.out (fun h => h)
  have hB2 := hm2.heap Hgwb.out (fun h => h)
  have hm02 := Hmb.out.trans hm2 (fun _ _ h => h)
  have d0 : w2.cell? ⟨wa.heap.size, 0, none⟩ = some (.int .i64 b.kind) := cell_of hB2 rfl
  have d1 : w2.cell? ⟨wa.heap.size, 1, none⟩ = some (.int .i64 b.int) := cell_of hB2 rfl
  have d2 : w2.cell? ⟨wa.heap.size, 2, none⟩ = some (.float .f64 b.num) := cell_of hB2 rfl
  have d3 : w2.cell? ⟨wa.heap.size, 3, none⟩ = some (.string b.text) := cell_of hB2 rfl
  have d4 : w2.cell? ⟨wa.heap.size, 4, none⟩ = some (.bool b.yes) := cell_of hB2 rfl
  have hvb := value_void b w2
  have HA2 := Lib.hid hA2
  have HB2 := Lib.hid hB2
  have Hm02 := Lib.hid hm02
  have Hvb := Lib.hid hvb
  clear hA2 hB2 hm02 hvb hm2 c0 c1 c2 c3 c4
  cases hv2 : b.void with
  | true =>
    have E := Lib.hid (show cmpV a b = (0, false) by unfold cmpV V.alike; rw [Hhk.out, Hhv.out, hv2]; rfl)
    rw [hv2] at Hvb
    clear hv2
    go_wp2_with fail
    refine Hvb.out.mono ?_
    rintro e w3 ⟨rfl, hm3⟩
    have Hm3 := Lib.hid (Hm02.out.trans hm3 (fun _ _ h => h))
    clear hm3
    go_wp2
    go_ret2
    exact ⟨by rw [E.out]; rfl, Hm3.out⟩
  | false =>
  have E := Lib.hid (show cmpV a b = (V.cmp a b, true) by unfold cmpV V.alike; rw [Hhk.out, Hhv.out, hv2]; rfl)
  rw [hv2] at Hvb
  clear hv2
  go_wp2_with fail
  refine Hvb.out.mono ?_
  rintro e w3 ⟨rfl, hm3⟩
  have hA3 := hm3.heap HA2.out (fun h => h)
  have hB3 := hm3.heap HB2.out (fun h => h)
  have c0 : w3.cell? ⟨w.heap.size, 0, none⟩ = some (.int .i64 a.kind) := cell_of hA3 rfl
  have c1 : w3.cell? ⟨w.heap.size, 1, none⟩ = some (.int .i64 a.int) := cell_of hA3 rfl
  have c2 : w3.cell? ⟨w.heap.size, 2, none⟩ = some (.float .f64 a.num) := cell_of hA3 rfl
  have c3 : w3.cell? ⟨w.heap.size, 3, none⟩ = some (.string a.text) := cell_of hA3 rfl
  have c4 : w3.cell? ⟨w.heap.size, 4, none⟩ = some (.bool a.yes) := cell_of hA3 rfl
  have d1 : w3.cell? ⟨wa.heap.size, 1, none⟩ = some (.int .i64 b.int) := cell_of hB3 rfl
  have d2 : w3.cell? ⟨wa.heap.size, 2, none⟩ = some (.float .f64 b.num) := cell_of hB3 rfl
  have d3 : w3.cell? ⟨wa.heap.size, 3, none⟩ = some (.string b.text) := cell_of hB3 rfl
  have d4 : w3.cell? ⟨wa.heap.size, 4, none⟩ = some (.bool b.yes) := cell_of hB3 rfl
  have hm03 := Hm02.out.trans hm3 (fun _ _ h => h)
  have HA3 := Lib.hid hA3
  have HB3 := Lib.hid hB3
  have Hm03 := Lib.hid hm03
  clear hA3 hB3 hm03 hm3 Hvb Hva HA2 HB2
  cases h0 : a.kind == 0 with
  | true =>
    have E2 := Lib.hid (show V.cmp a b = _ from if_pos (beq_iff_eq.1 h0))
    go_wp2_with fail
    refine (sign_at _ _ w3).mono ?_
    rintro e w4 ⟨rfl, rfl⟩
    go_wp2
    go_ret2
    exact ⟨by rw [E.out, E2.out]; rfl, Hm03.out⟩
  | false =>
  have h0' : ¬ a.kind = 0 := by simpa using h0
  have E0 := Lib.hid (show V.cmp a b = _ from if_neg h0')
  clear h0'
  cases h1 : a.kind == 1 with
  | true =>
    have E2 := Lib.hid (E0.out.trans (if_pos (beq_iff_eq.1 h1)))
    go_wp2_with fail
    go_quiet ((first | (go_at_call 125; exact Calls.quiet_of_same (less_at _ _ _)) | (go_at_call 124; exact Calls.quiet_of_same (sign_at _ _ _))))
    go_wp2
    go_ret2
    exact ⟨by rw [E.out, E2.out]; rfl, Hm03.out.drewN _⟩
  | false =>
  have h1' : ¬ a.kind = 1 := by simpa using h1
  have E1 := Lib.hid (E0.out.trans (if_neg h1'))
  clear h1'
  cases h2 : a.kind == 2 with
  | true =>
    have E2 := Lib.hid (E1.out.trans (if_pos (beq_iff_eq.1 h2)))
    go_wp2_with fail
    refine (cmp_at a.text b.text w3).mono ?_
    rintro e w4 ⟨rfl, rfl⟩
    go_wp2
    go_ret2
    exact ⟨by rw [E.out, E2.out]; rfl, Hm03.out⟩
  | false =>
    have h2' : ¬ a.kind = 2 := by simpa using h2
    have E2 := Lib.hid (E1.out.trans (if_neg h2'))
    clear h2'
    cases hya : a.yes with
    | true =>
      rw [hya] at E2 c4
      cases hyb : b.yes with
      | true =>
        rw [hyb] at E2 d4
        go_wp2_with fail
        refine (sign_at _ _ w3).mono ?_
        rintro e w4 ⟨rfl, rfl⟩
        go_wp2
        go_ret2
        exact ⟨by rw [E.out, E2.out]; rfl, Hm03.out⟩
      | false =>
        rw [hyb] at E2 d4
        go_wp2_with fail
        refine (sign_at _ _ w3).mono ?_
        rintro e w4 ⟨rfl, rfl⟩
        go_wp2
        go_ret2
        exact ⟨by rw [E.out, E2.out]; rfl, Hm03.out⟩
    | false =>
      rw [hya] at E2 c4
      cases hyb : b.yes with
      | true =>
        rw [hyb] at E2 d4
        go_wp2_with fail
        refine (sign_at _ _ w3).mono ?_
        rintro e w4 ⟨rfl, rfl⟩
        go_wp2
        go_ret2
        exact ⟨by rw [E.out, E2.out]; rfl, Hm03.out⟩
      | false =>
        rw [hyb] at E2 d4
        go_wp2_with fail
        refine (sign_at _ _ w3).mono ?_
        rintro e w4 ⟨rfl, rfl⟩
        go_wp2
        go_ret2
        exact ⟨by rw [E.out, E2.out]; rfl, Hm03.out⟩
end Go.Proofs.YtloplmaekonenaaGreatDoor

namespace Go.Proofs.YtloplmaekonenaaGreatDoor
set_option maxRecDepth 20000
open Go.RowKit

/-- Does a value do? -/
def Cnd.holds (c : Cnd) (v : V) : Bool :=
  if c.op = 7 then true else if c.op = 6 then (cmpV v c.v).2 && (v.kind == 2 && prefB v.text c.v.text) else if c.op = 0 then (cmpV v c.v).2 && (cmpV v c.v).1 == 0 else
  if c.op = 1 then (cmpV v c.v).2 && (cmpV v c.v).1 != 0 else if c.op = 2 then (cmpV v c.v).2 && decide ((cmpV v c.v).1 < 0) else if c.op = 3 then (cmpV v c.v).2 && decide ((cmpV v c.v).1 ≤ 0) else
  if c.op = 4 then (cmpV v c.v).2 && decide (0 < (cmpV v c.v).1) else if c.op = 5 then (cmpV v c.v).2 && decide (0 ≤ (cmpV v c.v).1) else false

theorem ret_bool {a b : Bool} (h : b = a) : Ending.returned (.bool a) = .returned (.bool b) := by rw [h]

set_option maxHeartbeats 8000000 in
theorem holds_at (c : Cnd) (v : V) (hc : c.v.text.size ≤ 9223372036854775807) (hv : v.text.size ≤ 9223372036854775807) (w : World) :
    Calls Tryz.prog 46 #[.agg c.cells.toArray, .agg v.cells.toArray] w fun e w' => e = .returned (.bool (c.holds v)) ∧ Mod (fun _ => False) w w' := by
  obtain ⟨wa, hwa⟩ : ∃ wa : World, w.alloc (.cells c.cells.toArray 81) = wa := ⟨_, rfl⟩
  have hmwa : Mod (fun _ => False) w wa := hwa ▸ (Mod.refl (fun _ => False) w).alloc _
  have hgwa := heap_alloc_new w (.cells c.cells.toArray 81)
  rw [hwa] at hgwa
  have hzwa : wa.heap.size = w.heap.size + 1 := by rw [← hwa]; simp
  obtain ⟨wb, hwb⟩ : ∃ wb : World, wa.alloc (.cells v.cells.toArray 79) = wb := ⟨_, rfl⟩
  have hmwb : Mod (fun _ => False) wa wb := hwb ▸ (Mod.refl (fun _ => False) wa).alloc _
  have hgwb := heap_alloc_new wa (.cells v.cells.toArray 79)
  rw [hwb] at hgwb
  have hzwb : wb.heap.size = wa.heap.size + 1 := by rw [← hwb]; simp
  have hmb := hmwa.trans hmwb (fun _ _ h => h)
  have hgA := hmwb.heap hgwa (fun h => h)
  have hcm := compare_at v c.v wb
  obtain ⟨R, hR⟩ : ∃ R, c.holds v = R := ⟨_, rfl⟩
  rw [hR]
  unfold Cnd.holds at hR
  obtain ⟨⟨n, ok⟩, hn⟩ : ∃ p, cmpV v c.v = p := ⟨_, rfl⟩
  rw [hn] at hcm hR
  simp only at hcm hR
  have hpf := fun wx => prefix_at v.text c.v.text hv hc wx
  have hlz : w.heap.size < wa.heap.size := by omega
  have Hwa := Lib.hid hwa
  have Hwb := Lib.hid hwb
  have Hmb := Lib.hid hmb
  have HgA := Lib.hid hgA
  have Hgwb := Lib.hid hgwb
  have Hcm := Lib.hid hcm
  have HR := Lib.hid hR
  have Hn := Lib.hid hn
  have Hpf := Lib.hid hpf
  clear hwa hwb hmb hgA hgwb hcm hR hn hpf hmwa hmwb hgwa hzwa hzwb hc hv
  go_enter Tryz.func46, Tryz.ntmps46
  go_wp2_with (first | (rw [show w.alloc _ = wa from Hwa.out]) | (rw [show wa.alloc _ = wb from Hwb.out]) | ((with_reducible refine wpList_load_lit 79 (.tmp 3) ?_); refine ⟨wa.heap.size, 0, rfl, v.cells, CellsAt.row Hgwb.out, by kernel_rfl, by kernel_rfl, ?_⟩) | ((with_reducible refine wpList_load_lit 79 (.tmp 9) ?_); refine ⟨w.heap.size, 2, rfl, c.v.cells, cells_from2 HgA.out, by kernel_rfl, by kernel_rfl, ?_⟩) | fail)
  refine Hcm.out.mono ?_
  rintro e w2 ⟨rfl, hm2⟩
  have hA2 := hm2.heap HgA.out (fun h => h)
  have hB2 := hm2.heap Hgwb.out (fun h => h)
  have hm02 := Hmb.out.trans hm2 (fun _ _ h => h)
  have c1 : w2.cell? ⟨w.heap.size, 1, none⟩ = some (.int .i64 c.op) := cell_of hA2 rfl
  have c5 : w2.cell? ⟨w.heap.size, 5, none⟩ = some (.string c.v.text) := cell_of hA2 rfl
  have d0 : w2.cell? ⟨wa.heap.size, 0, none⟩ = some (.int .i64 v.kind) := cell_of hB2 rfl
  have d3 : w2.cell? ⟨wa.heap.size, 3, none⟩ = some (.string v.text) := cell_of hB2 rfl
  have hpf2 := Hpf.out w2
  have Hm02 := Lib.hid hm02
  have Hpf2 := Lib.hid hpf2
  clear hm02 hpf2 hm2 hA2 hB2 Hcm HgA Hgwb Hpf Hwa Hwb Hmb
  cases ok with
  | false =>
    go_wp2
    all_goals (go_ret; refine ⟨ret_bool (HR.out.symm.trans (by (try simp only [beq_iff_eq, beq_eq_false_iff_ne, ne_eq] at *); simp [*])), Hm02.out⟩)
  | true =>
    cases hvk : v.kind == 2 with
    | false =>
      go_wp2
      all_goals (go_ret; refine ⟨ret_bool (HR.out.symm.trans (by (try simp only [beq_iff_eq, beq_eq_false_iff_ne, ne_eq] at *); simp [*])), Hm02.out⟩)
    | true =>
      go_wp2_with (refine Hpf2.out.mono ?_; rintro e w3 ⟨rfl, rfl⟩)
      all_goals (go_ret; refine ⟨ret_bool (HR.out.symm.trans (by (try simp only [beq_iff_eq, beq_eq_false_iff_ne, ne_eq] at *); simp [*])), Hm02.out⟩)
end Go.Proofs.YtloplmaekonenaaGreatDoor

namespace Go.Proofs.YtloplmaekonenaaGreatDoor
set_option maxRecDepth 20000
open Go.RowKit

theorem run_copy_row {P : Program} (w : World) (dT sT ty elem : TypeId) (sz g o dLen dCap : Nat) (a : Addr) (sLen sCap : Nat) (cs : List Value) (cur : Array Value) (t : TypeId)
    (hg : w.heap[g]? = some (.cells cur t (0, 0))) (hu : P.underlying dT = some (.slice elem)) (hs : (P.info? elem).map (·.size) = some sz) (hn : cs.length = Nat.min sLen dLen * sz)
    (hsrc : ∀ j v, cs[j]? = some v → w.cell? (a.add j) = some v) (hl : o + cs.length ≤ cur.size) (h1 : ∀ v ∈ cs, v.oneCell' = true) :
    (Builtin.copy_ #[dT, sT] ty #[.slice (some ⟨g, o, none⟩) dLen dCap, .slice (some a) sLen sCap]).run P w = .ok (goInt (Nat.min sLen dLen)) (w.setRow g (cur.toList.take o ++ cs ++ cur.toList.drop (o + cs.length)).toArray) := by
  have hld := run_loadCells_list (P := P) w a cs hsrc
  have hst := run_storeCells_at P g o t cs 0 cur w hg (by simpa using hl) h1
  simp only [Nat.add_zero] at hst
  cases hq : P.info? elem with
  | none => simp [hq] at hs
  | some i =>
    have hi : i.size = sz := by simpa [hq] using hs
    simp [Builtin.copy_, run_underlying hu, Builtin.lenOf, Builtin.firstCells, sizeOf, typeInfo, hq, hi, ← hn, hld, hst]

section
variable {P : Program} {w : World} {ops : Array Oper} {rest : List Oper} {a : Act} {Q : Exit → Act → World → Prop} {d : Option Tmp} {tp : TypeId} {pos : String} {af : Array Edge}
theorem wp_copy_run {o : Oper} {K : Act → World → Prop} (d s : Operand) (t t' : TypeId) (ho : o.op = .call { callee := .builtin .copy, args := #[d, s], argTypes := #[t, t'] })
    {v' : Value} {w' : World} (hr : (Builtin.copy_ #[t, t'] o.type #[a.eval d, a.eval s]).run P w = .ok v' w') (h : K (a.put o.dst v') w') : o.wp P a w K Q := by
  unfold Oper.wp execOp
  simp only [ho, resolve, invoke, builtin, Sem.run_bind, Sem.run_pure, Result.andThen_ok, List.map_toArray, List.map_cons, List.map_nil, hr]
  exact h
theorem wpList_copy_lit {at1 : Array TypeId} (x s : Operand)
    (h : ∃ (t t' : TypeId), at1 = #[t, t'] ∧ ∃ (v' : Value) (w' : World), (Builtin.copy_ #[t, t'] tp #[a.eval x, a.eval s]).run P w = .ok v' w' ∧ wpList P ops Q rest (a.put d v') w') :
    wpList P ops Q (⟨d, .call { callee := .builtin .copy, args := #[x, s], argTypes := at1 }, tp, pos, af, none⟩ :: rest) a w := by
  obtain ⟨t, t', rfl, v', w', hr, h⟩ := h
  exact wpList_plain rfl fun _ hK => wp_copy_run x s t t' rfl hr (hK _ _ h)
theorem wpList_append_run {at1 : Array TypeId} (x s : Operand)
    (h : ∃ (t t' : TypeId), at1 = #[t, t'] ∧ ∃ (v' : Value) (w' : World), (Builtin.append_ #[t, t'] tp #[a.eval x, a.eval s]).run P w = .ok v' w' ∧ wpList P ops Q rest (a.put d v') w') :
    wpList P ops Q (⟨d, .call { callee := .builtin .append, args := #[x, s], argTypes := at1 }, tp, pos, af, none⟩ :: rest) a w := by
  obtain ⟨t, t', rfl, v', w', hr, h⟩ := h
  refine wpList_plain rfl fun K hK => ?_
  unfold Oper.wp execOp
  simp only [resolve, invoke, builtin, Sem.run_bind, Sem.run_pure, Result.andThen_ok, List.map_toArray, List.map_cons, List.map_nil, hr]
  exact hK _ _ h
end

/-- A struct is written into a row, from some place on. -/
theorem run_store_part {P : Program} {w : World} (ty : TypeId) (g off : Nat) (cur : Array Value) (t : TypeId) (cs : List Value) (hg : w.heap[g]? = some (.cells cur t (0, 0))) (hl : off + cs.length ≤ cur.size)
    (hi : (P.info? ty).map (·.size) = some cs.length) (h1 : ∀ u ∈ cs, u.oneCell' = true) :
    (storeVar ty ⟨g, off, none⟩ (.agg cs.toArray)).run P w = .ok () (w.setRow g (cur.toList.take off ++ cs ++ cur.toList.drop (off + cs.length)).toArray) := by
  have hst := run_storeCells_at P g off t cs 0 cur w hg (by omega) h1
  cases hq : P.info? ty with
  | none => simp [hq] at hi
  | some i =>
    have hs : i.size = cs.length := by simpa [hq] using hi
    simp only [Nat.add_zero] at hst
    simp [storeVar, Value.cells, sizeOf, typeInfo, hq, hs, hst]
theorem wpList_store_part_lit {P : Program} {w : World} {ops : Array Oper} {rest : List Oper} {a : Act} {Q : Exit → Act → World → Prop} {d : Option Tmp} {tp : TypeId} {pos : String} {af : Array Edge} (ty : TypeId) (x y : Operand)
    (h : ∃ g off, a.eval x = .pointer (some ⟨g, off, none⟩) ∧ ∃ (cur : Array Value) (t : TypeId), w.heap[g]? = some (.cells cur t (0, 0)) ∧ ∃ cs : List Value, a.eval y = .agg cs.toArray ∧ off + cs.length ≤ cur.size ∧ (P.info? ty).map (·.size) = some cs.length ∧ cs.all (·.oneCell') = true ∧
      ∀ w', w' = w.setRow g (cur.toList.take off ++ cs ++ cur.toList.drop (off + cs.length)).toArray → Mod (fun k => k = g) w w' → wpList P ops Q rest (a.put d undef) w') : wpList P ops Q (⟨d, .store ty x y, tp, pos, af, none⟩ :: rest) a w := by
  obtain ⟨g, off, hx, cur, t, hg, cs, hy, hl, hi, h1, h⟩ := h
  refine wpList_plain rfl fun K hK => ?_
  have hr := run_store_part (P := P) (w := w) ty g off cur t cs hg hl hi (all_one h1)
  unfold Oper.wp execOp
  simp only [hx, hy, Instr.storeAt, Instr.sureAddr, Sem.run_bind, Sem.run_pure, Result.andThen_ok, hr]
  exact hK _ _ (h _ rfl ((Mod.refl (fun k => k = g) w).setRow (fun _ => rfl) _))

/-- append of m noughts, where there is no room: a new row. -/
theorem run_append_zeros {P : Program} (w : World) (t u ty e : TypeId) (i : TypeInfo) (z : Value) (ht : P.underlying t = some (.slice e)) (hu : P.underlying u = some (.int .i64)) (hi : P.info? e = some i) (hz : i.zero = some z)
    (sz : Nat) (hsize : i.size = sz) (hzs : z.cells.size = sz)
    (g off n cap : Nat) (xs : List Value) (hx : RdSl w sz (.slice (some ⟨g, off, none⟩) n cap) n xs) (m : Nat) (hm : m ≤ 1000000) (hno : cap < n + m) (hbytes : (n + m) * i.bytes ≤ 140737488355328) (hmax : n + m ≤ maxLen) :
    ∃ c, n + m ≤ c ∧ c ≤ maxLen ∧ (Builtin.append_ #[t, u] ty #[.slice (some ⟨g, off, none⟩) n cap, .int .i64 (m : Int)]).run P w =
      .ok (.slice (some ⟨w.heap.size, 0, none⟩) (n + m) c) (w.drew.alloc (.cells (xs.toArray ++ (Builtin.zeroCells z.cells m ++ Builtin.zeroCells z.cells (c - (n + m)))) e)) := by
  have hai : ∀ w : World, (asInt (Value.int .i64 (m : Int))).run P w = .ok (m : Int) w := fun _ => rfl
  have hm0 : ¬ ((m : Int) < 0) := by omega
  have hm48 : ¬ (281474976710656 < (m : Int)) := by omega
  have hwr : IntKind.i64.wrap (m : Int) = m := by rw [IntKind.wrap_i64]; omega
  have hge := grownCap_ge w (n + m) cap e
  have hcm : grownCap w (n + m) cap e ≤ maxLen := grownCap_le_maxLen w (n + m) cap e hmax
  refine ⟨grownCap w (n + m) cap e, hge, hcm, ?_⟩
  obtain ⟨hxl, a2, c2, hv2, hnc, _, hcc⟩ := hx
  cases hv2
  have hcc : ∀ j u, xs[j]? = some u → w.cell? ⟨g, off + j, none⟩ = some u := fun j u hu => by
    have hn0 : 0 < n := by
      rcases Nat.eq_zero_or_pos n with h | h
      · have h1 := (List.getElem?_eq_some_iff.1 hu).1
        rw [hxl, h, Nat.zero_mul] at h1
        omega
      · exact h
    obtain ⟨g2, off2, he, h⟩ := hcc _ rfl hn0
    cases he
    exact h j u hu
  have hfo := run_firstCells_some (P := P) w.drew sz n ⟨g, off, none⟩ n cap xs hxl (fun j u hu => by rw [addr_add]; exact hcc j u hu)
  have hn : ¬ (n + m ≤ cap) := by omega
  have h0 : m ≠ 0 := by omega
  have h63' : ¬ (9223372036854775807 < ((n : Int) + (m : Int))) := by simp only [maxLen] at hmax; omega
  have h48' : ¬ (281474976710656 < Builtin.nextslicecap (n + m) cap * i.bytes) := by have := growslice_fits (bytes := i.bytes) hno hbytes; omega
  have h48m : ¬ (281474976710656 < (m : Int) * (i.bytes : Int)) := by
    have h1 : m * i.bytes ≤ (n + m) * i.bytes := Nat.mul_le_mul_right _ (by omega)
    have h2 : ((m * i.bytes : Nat) : Int) = (m : Int) * (i.bytes : Int) := by rw [Int.natCast_mul]
    omega
  simp [Builtin.append_, run_underlying ht, run_underlying hu, sizeOf, typeInfo, zeroValue, hi, hz, hsize, hai, hwr, hm0, h48m, hn, h63', h48', Question.forced, hfo, newRow, grownCap, Array.append_assoc]
  intro h
  have hz0 : Builtin.zeroCells z.cells m = #[] := Array.eq_empty_of_size_eq_zero (by rw [size_zeroCells, hzs]; exact h)
  rw [hz0, Array.empty_append]

/-- A stretch of a list, written anew. -/
theorem list_rep {α : Type} {L A X B C : List α} {off n : Nat} (hoff : off ≤ L.length) (h : (L.drop off).take n = A ++ (X ++ B)) (hC : C.length = X.length) (hn : n = A.length + (X.length + B.length)) :
    ((L.take (off + A.length) ++ C ++ L.drop (off + A.length + C.length)).drop off).take n = A ++ (C ++ B) := by
  obtain ⟨R, hR⟩ : ∃ R, L = L.take off ++ ((A ++ (X ++ B)) ++ R) := ⟨(L.drop off).drop n, by rw [← h, List.take_append_drop, List.take_append_drop]⟩
  have hP : (L.take off).length = off := by rw [List.length_take]; omega
  generalize L.take off = Q at hR hP
  have e1 : L.take (off + A.length) = Q ++ A := by
    rw [hR, show Q ++ (A ++ (X ++ B) ++ R) = (Q ++ A) ++ (X ++ (B ++ R)) by simp, show off + A.length = (Q ++ A).length by rw [List.length_append, hP], List.take_left]
  have e2 : L.drop (off + A.length + C.length) = B ++ R := by
    rw [hR, show Q ++ (A ++ (X ++ B) ++ R) = ((Q ++ A) ++ X) ++ (B ++ R) by simp, show off + A.length + C.length = ((Q ++ A) ++ X).length by rw [List.length_append, List.length_append, hP, hC], List.drop_left]
  rw [e1, e2, show Q ++ A ++ C ++ (B ++ R) = Q ++ ((A ++ (C ++ B)) ++ R) by simp]
  conv => lhs; arg 2; arg 1; rw [← hP]
  rw [List.drop_left, show n = (A ++ (C ++ B)).length by rw [List.length_append, List.length_append, hC]; exact hn, List.take_left]

/-- A list with room behind it: what stands behind A goes on by as much as X is long, X in between. -/
theorem list_shift {α : Type} {L A B X : List α} {off : Nat} (hoff : off + A.length + B.length + X.length ≤ L.length) (h : (L.drop off).take (A.length + B.length) = A ++ B) :
    let L1 := L.take (off + A.length + X.length) ++ B ++ L.drop (off + A.length + X.length + B.length)
    let L2 := L1.take (off + A.length) ++ X ++ L1.drop (off + A.length + X.length)
    (L2.drop off).take (A.length + X.length + B.length) = A ++ (X ++ B) ∧ L2.length = L.length := by
  intro L1 L2
  obtain ⟨R, hR⟩ : ∃ R, L = L.take off ++ ((A ++ B) ++ R) := ⟨(L.drop off).drop (A.length + B.length), by rw [← h, List.take_append_drop, List.take_append_drop]⟩
  have hP : (L.take off).length = off := by rw [List.length_take]; omega
  generalize L.take off = Q at hR hP
  have hlen : L.length = off + A.length + B.length + R.length := by rw [hR]; simp; omega
  obtain ⟨Y, hY⟩ : ∃ Y, Y = (B ++ R).take X.length := ⟨_, rfl⟩
  have hYl : Y.length = X.length := by rw [hY, List.length_take, List.length_append]; omega
  have e1 : L.take (off + A.length + X.length) = Q ++ (A ++ Y) := by
    rw [hR, show Q ++ (A ++ B ++ R) = (Q ++ A) ++ (B ++ R) by simp only [List.append_assoc], show off + A.length + X.length = (Q ++ A).length + X.length by rw [List.length_append, hP], List.take_length_add_append, ← hY]
    simp
  obtain ⟨Z, hZ⟩ : ∃ Z, L.drop (off + A.length + X.length + B.length) = Z := ⟨_, rfl⟩
  have h1 : L1 = Q ++ (A ++ (Y ++ (B ++ Z))) := by simp only [L1, e1, hZ]; simp
  have e2 : L1.take (off + A.length) = Q ++ A := by
    rw [h1, show Q ++ (A ++ (Y ++ (B ++ Z))) = (Q ++ A) ++ (Y ++ (B ++ Z)) by simp, show off + A.length = (Q ++ A).length by rw [List.length_append, hP], List.take_left]
  have e3 : L1.drop (off + A.length + X.length) = B ++ Z := by
    rw [h1, show Q ++ (A ++ (Y ++ (B ++ Z))) = (Q ++ (A ++ Y)) ++ (B ++ Z) by simp, show off + A.length + X.length = (Q ++ (A ++ Y)).length by rw [List.length_append, List.length_append, hP, hYl]; omega, List.drop_left]
  have h2 : L2 = Q ++ ((A ++ (X ++ B)) ++ Z) := by simp only [L2, e2, e3]; simp
  refine ⟨?_, ?_⟩
  · rw [h2, show A.length + X.length + B.length = (A ++ (X ++ B)).length by rw [List.length_append, List.length_append]; omega]
    conv => lhs; arg 2; arg 1; rw [← hP]
    rw [List.drop_left, List.take_left]
  · have hZl : Z.length = L.length - (off + A.length + X.length + B.length) := by rw [← hZ, List.length_drop]
    rw [h2]
    simp only [List.length_append, hZl, hP]
    omega
end Go.Proofs.YtloplmaekonenaaGreatDoor

namespace Go.Proofs.YtloplmaekonenaaGreatDoor
set_option maxRecDepth 20000
open Go.RowKit

/-- Does no value ever do? -/
def Cnd.voidB (c : Cnd) : Bool := (c.op != 7 && c.v.void) || (c.op == 6 && c.v.kind != 2)

set_option maxHeartbeats 2000000 in
theorem cond_void (c : Cnd) (w : World) : Calls Tryz.prog 164 #[.agg c.cells.toArray] w fun e w' => e = .returned (.bool c.voidB) ∧ Mod (fun _ => False) w w' := by
  obtain ⟨wa, hwa⟩ : ∃ wa : World, w.alloc (.cells c.cells.toArray 81) = wa := ⟨_, rfl⟩
  have hmwa : Mod (fun _ => False) w wa := hwa ▸ (Mod.refl (fun _ => False) w).alloc _
  have hgwa := heap_alloc_new w (.cells c.cells.toArray 81)
  rw [hwa] at hgwa
  have hzwa : wa.heap.size = w.heap.size + 1 := by rw [← hwa]; simp
  have c1 : wa.cell? ⟨w.heap.size, 1, none⟩ = some (.int .i64 c.op) := cell_of hgwa rfl
  have c2 : wa.cell? ⟨w.heap.size, 2, none⟩ = some (.int .i64 c.v.kind) := cell_of hgwa rfl
  have c3 : wa.cell? ⟨w.heap.size, 3, none⟩ = some (.int .i64 c.v.int) := cell_of hgwa rfl
  have c4 : wa.cell? ⟨w.heap.size, 4, none⟩ = some (.float .f64 c.v.num) := cell_of hgwa rfl
  have c5 : wa.cell? ⟨w.heap.size, 5, none⟩ = some (.string c.v.text) := cell_of hgwa rfl
  have c6 : wa.cell? ⟨w.heap.size, 6, none⟩ = some (.bool c.v.yes) := cell_of hgwa rfl
  have hvv := value_void c.v wa
  obtain ⟨R, hR⟩ : ∃ R, c.voidB = R := ⟨_, rfl⟩
  rw [hR]
  unfold Cnd.voidB at hR
  obtain ⟨vd, hvd⟩ : ∃ b, c.v.void = b := ⟨_, rfl⟩
  rw [hvd] at hvv hR
  have Hwa := Lib.hid hwa
  have Hmwa := Lib.hid hmwa
  have Hgwa := Lib.hid hgwa
  have Hvv := Lib.hid hvv
  have HR := Lib.hid hR
  clear hwa hmwa hgwa hvv hR hvd hzwa
  cases h7 : c.op == 7 with
  | true =>
    have h7n : (c.op != 7) = false := by simp [bne, h7]
    have h6 : (c.op == 6) = false := by rw [beq_iff_eq] at h7; rw [h7]; rfl
    go_enter Tryz.func164, Tryz.ntmps164
    go_wp2_with (first | (rw [show w.alloc _ = wa from Hwa.out]) | fail)
    go_ret
    exact ⟨ret_bool (HR.out.symm.trans (by simp [*])), Hmwa.out⟩
  | false =>
    have h7n : (c.op != 7) = true := by simp [bne, h7]
    go_enter Tryz.func164, Tryz.ntmps164
    go_wp2_with (first | (rw [show w.alloc _ = wa from Hwa.out]) | fail)
    refine Hvv.out.mono ?_
    rintro e w2 ⟨rfl, hm2⟩
    have hg2 := hm2.heap Hgwa.out (fun h => h)
    have d1 : w2.cell? ⟨w.heap.size, 1, none⟩ = some (.int .i64 c.op) := cell_of hg2 rfl
    have d2 : w2.cell? ⟨w.heap.size, 2, none⟩ = some (.int .i64 c.v.kind) := cell_of hg2 rfl
    have Hm2 := Lib.hid (Hmwa.out.trans hm2 (fun _ _ h => h))
    clear hm2 hg2 c1 c2 c3 c4 c5 c6
    cases vd with
    | true =>
      go_wp2
      go_ret
      exact ⟨ret_bool (HR.out.symm.trans (by simp [*])), Hm2.out⟩
    | false =>
      cases h6 : c.op == 6 with
      | true =>
        go_wp2
        go_ret
        exact ⟨ret_bool (HR.out.symm.trans (by simp [*])), Hm2.out⟩
      | false =>
        go_wp2
        go_ret
        exact ⟨ret_bool (HR.out.symm.trans (by simp [*])), Hm2.out⟩

set_option maxHeartbeats 2000000 in
theorem indexc_at (F : FuncId) (cap : Array Value) (hF : ∀ args w, (callFunc F args).run Tryz.prog w = .ok (.enter F args) w) (p : Cnd → Bool) (w : World) (v : Value) (l : List Cnd) (hv : RdSl w 7 v l.length (cnds l)) (hll : l.length ≤ 9223372036854775807)
    (hp : ∀ c ∈ l, ∀ wx, Mod (fun _ => False) w wx → Calls Tryz.prog F (#[.agg c.cells.toArray] ++ cap) wx fun e w' => e = .returned (.bool (p c)) ∧ Mod (fun _ => False) wx w') :
    Calls Tryz.prog 177 #[v, .func (.func F) #[] cap] w fun e w' => ∃ n : Int, e = .returned (.int .i64 n) ∧ (decide (0 ≤ n) = l.any p) ∧ Mod (fun _ => False) w w' := by
  obtain ⟨a, ca, rfl, hcap⟩ : ∃ a c, v = .slice a l.length c ∧ l.length ≤ c := by obtain ⟨-, a, c, h, h2, -⟩ := hv; exact ⟨a, c, h, h2⟩
  have hll' : (l.length : Int) ≤ 9223372036854775807 := by omega
  have hcap' : (l.length : Int) ≤ ca := by omega
  obtain ⟨R, hR⟩ : ∃ R, l.any p = R := ⟨_, rfl⟩
  rw [hR]
  have Hv := Lib.hid hv
  have Hp := Lib.hid hp
  have HR := Lib.hid hR
  have HF := Lib.hid hF
  clear hv hp hR hF hll
  go_enter Tryz.func177, Tryz.ntmps177
  go_wp2_with fail
  go_loopw [8] (fun i wr => ∃ j : Nat, i = .int .i64 j ∧ j ≤ l.length ∧ Mod (fun _ => False) w wr ∧ (∀ (k : Nat) (x : Cnd), k < j → l[k]? = some x → p x = false)) (fun i _ => l.length - (intOf i).toNat)
  case atStart => exact ⟨0, rfl, Nat.zero_le _, Mod.refl _ _, fun k x hk => by omega⟩
  case round =>
    obtain ⟨j, rfl, hj, hmr, hall⟩ := hrel
    by_cases hlt : j < l.length
    · have hlt' : (j : Int) < l.length := by omega
      obtain ⟨x, hxj⟩ : ∃ x, l[j]? = some x := ⟨_, List.getElem?_eq_getElem hlt⟩
      have hxm := List.mem_of_getElem? hxj
      obtain ⟨g, off, rfl, hf⟩ : ∃ g off, a = some ⟨g, off, none⟩ ∧ CellsAt wr g (off + j * 7) x.cells := rd_cnd (Hv.out.mod hmr (fun _ _ h => h)) hxj
      have hpx := Hp.out x hxm wr hmr
      have Hmr := Lib.hid hmr
      have Hall := Lib.hid hall
      have Hxj := Lib.hid hxj
      have Hxm := Lib.hid hxm
      have Hf := Lib.hid hf
      have Hpx := Lib.hid hpx
      clear hmr hall hxj hxm hf hpx
      have hF2 := HF.out
      go_wp2_with (first | ((with_reducible refine wpList_load_lit 81 (.tmp 14) ?_); refine ⟨g, off + j * 7, rfl, x.cells, Hf.out, by kernel_rfl, by kernel_rfl, ?_⟩) | fail)
      refine Hpx.out.mono ?_
      rintro e w3 ⟨rfl, hm3⟩
      have Hm3 := Lib.hid (Hmr.out.trans hm3 (fun _ _ h => h))
      clear hm3 hF2
      cases hs : p x with
      | false =>
        have Hs := Lib.hid hs
        clear hs
        go_wp2_with fail
        go_roundw
        case rel =>
          refine ⟨j + 1, by go_num, hlt, Hm3.out, fun k x' hk hx' => ?_⟩
          rcases Nat.lt_succ_iff_lt_or_eq.1 hk with hk | rfl
          · exact Hall.out k x' hk hx'
          · rw [Hxj.out] at hx'; cases hx'; exact Hs.out
        case measure => simp [intOf]; omega
      | true =>
        have Hs := Lib.hid hs
        clear hs
        go_wp2
        go_ret
        refine ⟨(j : Int), rfl, ?_, Hm3.out⟩
        rw [← HR.out, List.any_eq_true.2 ⟨x, Hxm.out, Hs.out⟩]
        exact decide_eq_true (by omega)
    · obtain rfl : j = l.length := by omega
      have Hmr := Lib.hid hmr
      have Hall := Lib.hid hall
      clear hmr hall
      go_wp2
      go_ret
      refine ⟨-1, rfl, ?_, Hmr.out⟩
      rw [← HR.out, List.any_eq_false.2 fun x hx => by
        obtain ⟨k, hk⟩ := List.mem_iff_getElem?.1 hx
        rw [Hall.out k x (List.getElem?_eq_some_iff.1 hk).1 hk]
        decide]
      rfl

theorem contains_at (F : FuncId) (cap : Array Value) (hF : ∀ args w, (callFunc F args).run Tryz.prog w = .ok (.enter F args) w) (p : Cnd → Bool) (w : World) (v : Value) (l : List Cnd) (hv : RdSl w 7 v l.length (cnds l)) (hll : l.length ≤ 9223372036854775807)
    (hp : ∀ c ∈ l, ∀ wx, Mod (fun _ => False) w wx → Calls Tryz.prog F (#[.agg c.cells.toArray] ++ cap) wx fun e w' => e = .returned (.bool (p c)) ∧ Mod (fun _ => False) wx w') :
    Calls Tryz.prog 137 #[v, .func (.func F) #[] cap] w fun e w' => e = .returned (.bool (l.any p)) ∧ Mod (fun _ => False) w w' := by
  have Hi := Lib.hid (indexc_at F cap hF p w v l hv hll hp)
  obtain ⟨R, hR⟩ : ∃ R, l.any p = R := ⟨_, rfl⟩
  rw [hR] at Hi ⊢
  clear hF hv hp hR
  go_enter Tryz.func137, Tryz.ntmps137
  go_wp2_with fail
  refine Hi.out.mono ?_
  rintro e w3 ⟨n, rfl, hn, hm3⟩
  have Hn := Lib.hid hn
  have Hm3 := Lib.hid hm3
  clear hn hm3
  go_wp2
  go_ret
  exact ⟨ret_bool Hn.out.symm, Hm3.out⟩

theorem callVoid : ∀ (args : Array Value) (W : World), Sem.run Tryz.prog (callFunc 164 args) W = .ok (.enter 164 args) W := fun args w => by simp [go_sem]

theorem filter_void (w : World) (sc : ByteArray) (cv : Value) (l : List Cnd) (hv : RdSl w 7 cv l.length (cnds l)) (hll : l.length ≤ 9223372036854775807) :
    Calls Tryz.prog 136 #[.agg #[.string sc, cv]] w fun e w' => e = .returned (.bool (l.any Cnd.voidB)) ∧ Mod (fun _ => False) w w' := by
  obtain ⟨a, cap, rfl⟩ : ∃ a c, cv = .slice a l.length c := by obtain ⟨-, a, c, h, -⟩ := hv; exact ⟨a, c, h⟩
  obtain ⟨wa, hwa⟩ : ∃ wa : World, w.alloc (.cells #[.string sc, .slice a l.length cap] 29) = wa := ⟨_, rfl⟩
  have hmwa : Mod (fun _ => False) w wa := hwa ▸ (Mod.refl (fun _ => False) w).alloc _
  have hgwa := heap_alloc_new w (.cells #[.string sc, .slice a l.length cap] 29)
  rw [hwa] at hgwa
  have hzwa : wa.heap.size = w.heap.size + 1 := by rw [← hwa]; simp
  have c1 : wa.cell? ⟨w.heap.size, 1, none⟩ = some (.slice a l.length cap) := cell_of hgwa rfl
  have hct := contains_at 164 #[] callVoid Cnd.voidB wa _ l (hv.mod hmwa (fun _ _ h => h)) hll (fun c _ wx _ => cond_void c wx)
  have Hwa := Lib.hid hwa
  have Hmwa := Lib.hid hmwa
  have Hct := Lib.hid hct
  clear hwa hmwa hct hgwa hzwa hv
  go_enter Tryz.func136, Tryz.ntmps136
  go_wp2_with (first | (rw [show w.alloc _ = wa from Hwa.out]) | fail)
  refine Hct.out.mono ?_
  rintro e w3 ⟨rfl, hm3⟩
  have Hm3 := Lib.hid (Hmwa.out.trans hm3 (fun _ _ h => h))
  clear hm3
  go_wp2
  go_ret
  exact ⟨rfl, Hm3.out⟩
end Go.Proofs.YtloplmaekonenaaGreatDoor

namespace Go.Proofs.YtloplmaekonenaaGreatDoor
set_option maxRecDepth 20000
open Go.RowKit

theorem same_at2 (x y : Nat) (hx : x < 2 ^ 64) (hy : y < 2 ^ 64) (w : World) :
    Calls Tryz.prog 199 #[.float .f64 x, .float .f64 y] w fun e w' => e = .returned (.bool (keyB x == keyB y)) ∧ w' = w := by
  have Hk1 := Lib.hid (key_at x hx w)
  have Hk2 := Lib.hid (key_at y hy w)
  go_enter Tryz.func199, Tryz.ntmps199
  go_wp2_with fail
  refine Hk1.out.mono ?_
  rintro e w1 ⟨rfl, rfl⟩
  go_wp2_with fail
  refine Hk2.out.mono ?_
  rintro e w2 ⟨rfl, rfl⟩
  go_wp2
  go_ret
  refine ⟨congrArg (fun b => Ending.returned (.bool b)) ?_, rfl⟩
  by_cases h : keyB x = keyB y
  · rw [h]; simp
  · rw [beq_eq_false_iff_ne.2 h, beq_eq_false_iff_ne.2 (by omega)]

/-- The same values? -/
def V.same (a b : V) : Bool := a.kind == b.kind && (if a.kind = 0 then a.int == b.int else if a.kind = 1 then keyB a.num == keyB b.num else if a.kind = 2 then a.text.toList == b.text.toList else a.yes == b.yes)

theorem value_same (a b : V) (ha : a.num < 2 ^ 64) (hb : b.num < 2 ^ 64) (w : World) :
    Calls Tryz.prog 165 #[.agg a.cells.toArray, .agg b.cells.toArray] w fun e w' => e = .returned (.bool (V.same a b)) ∧ Mod (fun _ => False) w w' := by
  obtain ⟨k1, i1, n1, t1, y1⟩ := a
  obtain ⟨k2, i2, n2, t2, y2⟩ := b
  have hsm := fun w => same_at2 n1 n2 ha hb w
  have Hsm := Lib.hid hsm
  have hm2 : ∀ A B : Obj, Mod (fun _ => False) w ((w.alloc A).alloc B) := fun A B => ((Mod.refl _ w).alloc _).alloc _
  have Hm2 := Lib.hid hm2
  clear hsm hm2 ha hb
  unfold V.cells V.same
  by_cases hk : k1 = k2
  · subst hk
    have hkk : (k1 == k1) = true := by simp
    simp only [hkk, Bool.true_and]
    rcases (by omega : k1 = 0 ∨ k1 = 1 ∨ k1 = 2 ∨ (k1 ≠ 0 ∧ k1 ≠ 1 ∧ k1 ≠ 2)) with h | h | h | ⟨h0, h1, h2⟩
    · subst h
      rw [if_pos rfl]
      go_enter Tryz.func165, Tryz.ntmps165
      go_wp2
      go_ret
      exact ⟨rfl, Hm2.out _ _⟩
    · subst h
      rw [if_neg (by decide), if_pos rfl]
      go_enter Tryz.func165, Tryz.ntmps165
      go_wp2_with fail
      refine (Hsm.out _).mono ?_
      rintro e w2 ⟨rfl, rfl⟩
      go_wp2
      go_ret
      exact ⟨rfl, Hm2.out _ _⟩
    · subst h
      rw [if_neg (by decide), if_neg (by decide), if_pos rfl]
      go_enter Tryz.func165, Tryz.ntmps165
      go_wp2
      go_ret
      exact ⟨rfl, Hm2.out _ _⟩
    · rw [if_neg h0, if_neg h1, if_neg h2]
      go_enter Tryz.func165, Tryz.ntmps165
      go_wp2
      go_ret
      exact ⟨rfl, Hm2.out _ _⟩
  · have hkk : (k1 == k2) = false := beq_eq_false_iff_ne.2 hk
    have hkn : (k1 != k2) = true := by simp [bne, hkk]
    simp only [hkk, Bool.false_and]
    go_enter Tryz.func165, Tryz.ntmps165
    go_wp2
    go_ret
    exact ⟨rfl, Hm2.out _ _⟩
end Go.Proofs.YtloplmaekonenaaGreatDoor
