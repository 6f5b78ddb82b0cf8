/-
  value.Compare.
  cond.Holds.
  event.Get; cond.Match; filter.Match.
  The law's Rights: those rules that may be.
  The law's Event: one that may be, of attributes.
-/
import Derived.Test.YtloplmaekonenaaGreatDoorZi15
import Derived.Deep.QuietTactic
import Derived.BigQuiet
import Derived.Test.YtloplmaekonenaaGreatDoorZi11
import Derived.Test.YtloplmaekonenaaGreatDoorZi13
import Derived.Test.YtloplmaekonenaaGreatDoorZi7
import Derived.Deep.DeepCutAuto
import Derived.Deep.CutBlock
namespace Go.Proofs.YtloplmaekonenaaGreatDoor
set_option maxRecDepth 20000
open Go.RowKit
def sgn (l m : Bool) : Int := if l then -1 else if m then 1 else 0
def V.cmp (a b : V) : Int := if a.kind = 0 then sgn (decide (a.int < b.int)) (decide (b.int < a.int)) else if a.kind = 1 then sgn (fLt a.num b.num) (fLt b.num a.num) else
  if a.kind = 2 then Lib.compareBytes a.text.data.toList b.text.data.toList else sgn (!a.yes && b.yes) (a.yes && !b.yes)
def V.alike (a b : V) : Bool := a.kind == b.kind && (!a.void && !b.void)
def cmpV (a b : V) : Int × Bool := if V.alike a b = true then (V.cmp a b, true) else (0, false)
theorem sign_at (l m : Bool) (w : World) : Calls Tryz.prog 124 #[.bool l, .bool m] w fun e w' => e = .returned (.int .i64 (sgn l m)) ∧ w' = w := by
  cases l with
  | true =>
    go_enter Tryz.func124, Tryz.ntmps124
    go_wp2
    go_ret
    exact ⟨rfl, rfl⟩
  | false =>
    cases m with
    | true =>
      go_enter Tryz.func124, Tryz.ntmps124
      go_wp2
      go_ret
      exact ⟨rfl, rfl⟩
    | false =>
      go_enter Tryz.func124, Tryz.ntmps124
      go_wp2
      go_ret
      exact ⟨rfl, rfl⟩
set_option maxHeartbeats 4000000 in
theorem compare_at (a b : V) (w : World) : Calls Tryz.prog 82 #[.agg a.cells.toArray, .agg b.cells.toArray] w fun e w' => e = .returned (.tuple #[.int .i64 (cmpV a b).1, .bool (cmpV a b).2]) ∧ Mod (fun _ => False) w w' := by
  obtain ⟨wa, hwa⟩ : ∃ wa : World, w.alloc (.cells a.cells.toArray 79) = wa := ⟨_, rfl⟩
  have hmwa : Mod (fun _ => False) w wa := hwa ▸ (Mod.refl (fun _ => False) w).alloc _
  have hgwa := heap_alloc_new w (.cells a.cells.toArray 79)
  rw [hwa] at hgwa
  have hzwa : wa.heap.size = w.heap.size + 1 := by rw [← hwa]; simp
  obtain ⟨wb, hwb⟩ : ∃ wb : World, wa.alloc (.cells b.cells.toArray 79) = wb := ⟨_, rfl⟩
  have hmwb : Mod (fun _ => False) wa wb := hwb ▸ (Mod.refl (fun _ => False) wa).alloc _
  have hgwb := heap_alloc_new wa (.cells b.cells.toArray 79)
  rw [hwb] at hgwb
  have hzwb : wb.heap.size = wa.heap.size + 1 := by rw [← hwb]; simp
  have hmb := hmwa.trans hmwb (fun _ _ h => h)
  have hgA := hmwb.heap hgwa (fun h => h)
  have c0 : wb.cell? ⟨w.heap.size, 0, none⟩ = some (.int .i64 a.kind) := cell_of hgA rfl
  have c1 : wb.cell? ⟨w.heap.size, 1, none⟩ = some (.int .i64 a.int) := cell_of hgA rfl
  have c2 : wb.cell? ⟨w.heap.size, 2, none⟩ = some (.float .f64 a.num) := cell_of hgA rfl
  have c3 : wb.cell? ⟨w.heap.size, 3, none⟩ = some (.string a.text) := cell_of hgA rfl
  have c4 : wb.cell? ⟨w.heap.size, 4, none⟩ = some (.bool a.yes) := cell_of hgA rfl
  have d0 : wb.cell? ⟨wa.heap.size, 0, none⟩ = some (.int .i64 b.kind) := cell_of hgwb rfl
  have d1 : wb.cell? ⟨wa.heap.size, 1, none⟩ = some (.int .i64 b.int) := cell_of hgwb rfl
  have d2 : wb.cell? ⟨wa.heap.size, 2, none⟩ = some (.float .f64 b.num) := cell_of hgwb rfl
  have d3 : wb.cell? ⟨wa.heap.size, 3, none⟩ = some (.string b.text) := cell_of hgwb rfl
  have d4 : wb.cell? ⟨wa.heap.size, 4, none⟩ = some (.bool b.yes) := cell_of hgwb rfl
  have hlz : w.heap.size < wa.heap.size := by omega
  have hva := value_void a wb
  have Hwa := Lib.hid hwa
  have Hwb := Lib.hid hwb
  have Hmb := Lib.hid hmb
  have Hva := Lib.hid hva
  have HgA := Lib.hid hgA
  have Hgwb := Lib.hid hgwb
  clear hwa hwb hmb hva hgA hgwb hmwa hmwb hgwa hzwa hzwb
  cases hk : a.kind == b.kind with
  | false =>
    have hkn : (a.kind != b.kind) = true := by simp [bne, hk]
    have E := Lib.hid (show cmpV a b = (0, false) by unfold cmpV V.alike; rw [hk]; rfl)
    go_enter Tryz.func82, Tryz.ntmps82
    go_wp2_with (first | (rw [show w.alloc _ = wa from Hwa.out]) | (rw [show wa.alloc _ = wb from Hwb.out]) | fail)
    go_ret2
    exact ⟨by rw [E.out]; rfl, Hmb.out⟩
  | true =>
  have hkn : (a.kind != b.kind) = false := by simp [bne, hk]
  cases hv : a.void with
  | true =>
    have E := Lib.hid (show cmpV a b = (0, false) by unfold cmpV V.alike; rw [hk, hv]; rfl)
    rw [hv] at Hva
    clear hv
    go_enter Tryz.func82, Tryz.ntmps82
    go_wp2_with (first | (rw [show w.alloc _ = wa from Hwa.out]) | (rw [show wa.alloc _ = wb from Hwb.out]) | fail)
    refine Hva.out.mono ?_
    rintro e w2 ⟨rfl, hm2⟩
    have Hm2 := Lib.hid (Hmb.out.trans hm2 (fun _ _ h => h))
    clear hm2
    go_wp2
    go_ret2
    exact ⟨by rw [E.out]; rfl, Hm2.out⟩
  | false =>
  have Hhk := Lib.hid hk
  have Hhv := Lib.hid hv
  rw [hv] at Hva
  clear hv hk
  go_enter Tryz.func82, Tryz.ntmps82
  go_wp2_with (first | (rw [show w.alloc _ = wa from Hwa.out]) | (rw [show wa.alloc _ = wb from Hwb.out]) | fail)
  refine Hva.out.mono ?_
  rintro e w2 ⟨rfl, hm2⟩
  have hA2 := hm2.heap HgA.out (fun h => h)
  have hB2 := hm2.heap Hgwb.out (fun h => h)
  have hm02 := Hmb.out.trans hm2 (fun _ _ h => h)
  have d0 : w2.cell? ⟨wa.heap.size, 0, none⟩ = some (.int .i64 b.kind) := cell_of hB2 rfl
  have d1 : w2.cell? ⟨wa.heap.size, 1, none⟩ = some (.int .i64 b.int) := cell_of hB2 rfl
  have d2 : w2.cell? ⟨wa.heap.size, 2, none⟩ = some (.float .f64 b.num) := cell_of hB2 rfl
  have d3 : w2.cell? ⟨wa.heap.size, 3, none⟩ = some (.string b.text) := cell_of hB2 rfl
  have d4 : w2.cell? ⟨wa.heap.size, 4, none⟩ = some (.bool b.yes) := cell_of hB2 rfl
  have hvb := value_void b w2
  have HA2 := Lib.hid hA2
  have HB2 := Lib.hid hB2
  have Hm02 := Lib.hid hm02
  have Hvb := Lib.hid hvb
  clear hA2 hB2 hm02 hvb hm2 c0 c1 c2 c3 c4
  cases hv2 : b.void with
  | true =>
    have E := Lib.hid (show cmpV a b = (0, false) by unfold cmpV V.alike; rw [Hhk.out, Hhv.out, hv2]; rfl)
    rw [hv2] at Hvb
    clear hv2
    go_wp2_with fail
    refine Hvb.out.mono ?_
    rintro e w3 ⟨rfl, hm3⟩
    have Hm3 := Lib.hid (Hm02.out.trans hm3 (fun _ _ h => h))
    clear hm3
    go_wp2
    go_ret2
    exact ⟨by rw [E.out]; rfl, Hm3.out⟩
  | false =>
  have E := Lib.hid (show cmpV a b = (V.cmp a b, true) by unfold cmpV V.alike; rw [Hhk.out, Hhv.out, hv2]; rfl)
  rw [hv2] at Hvb
  clear hv2
  go_wp2_with fail
  refine Hvb.out.mono ?_
  rintro e w3 ⟨rfl, hm3⟩
  have hA3 := hm3.heap HA2.out (fun h => h)
  have hB3 := hm3.heap HB2.out (fun h => h)
  have c0 : w3.cell? ⟨w.heap.size, 0, none⟩ = some (.int .i64 a.kind) := cell_of hA3 rfl
  have c1 : w3.cell? ⟨w.heap.size, 1, none⟩ = some (.int .i64 a.int) := cell_of hA3 rfl
  have c2 : w3.cell? ⟨w.heap.size, 2, none⟩ = some (.float .f64 a.num) := cell_of hA3 rfl
  have c3 : w3.cell? ⟨w.heap.size, 3, none⟩ = some (.string a.text) := cell_of hA3 rfl
  have c4 : w3.cell? ⟨w.heap.size, 4, none⟩ = some (.bool a.yes) := cell_of hA3 rfl
  have d1 : w3.cell? ⟨wa.heap.size, 1, none⟩ = some (.int .i64 b.int) := cell_of hB3 rfl
  have d2 : w3.cell? ⟨wa.heap.size, 2, none⟩ = some (.float .f64 b.num) := cell_of hB3 rfl
  have d3 : w3.cell? ⟨wa.heap.size, 3, none⟩ = some (.string b.text) := cell_of hB3 rfl
  have d4 : w3.cell? ⟨wa.heap.size, 4, none⟩ = some (.bool b.yes) := cell_of hB3 rfl
  have hm03 := Hm02.out.trans hm3 (fun _ _ h => h)
  have HA3 := Lib.hid hA3
  have HB3 := Lib.hid hB3
  have Hm03 := Lib.hid hm03
  clear hA3 hB3 hm03 hm3 Hvb Hva HA2 HB2
  cases h0 : a.kind == 0 with
  | true =>
    have E2 := Lib.hid (show V.cmp a b = _ from if_pos (beq_iff_eq.1 h0))
    go_wp2_with fail
    refine (sign_at _ _ w3).mono ?_
    rintro e w4 ⟨rfl, rfl⟩
    go_wp2
    go_ret2
    exact ⟨by rw [E.out, E2.out]; rfl, Hm03.out⟩
  | false =>
  have h0' : ¬ a.kind = 0 := by simpa using h0
  have E0 := Lib.hid (show V.cmp a b = _ from if_neg h0')
  clear h0'
  cases h1 : a.kind == 1 with
  | true =>
    have E2 := Lib.hid (E0.out.trans (if_pos (beq_iff_eq.1 h1)))
    go_wp2_with fail
    go_quiet ((first | (go_at_call 125; exact Calls.quiet_of_same (less_at _ _ _)) | (go_at_call 124; exact Calls.quiet_of_same (sign_at _ _ _))))
    go_wp2
    go_ret2
    exact ⟨by rw [E.out, E2.out]; rfl, Hm03.out.drewN _⟩
  | false =>
  have h1' : ¬ a.kind = 1 := by simpa using h1
  have E1 := Lib.hid (E0.out.trans (if_neg h1'))
  clear h1'
  cases h2 : a.kind == 2 with
  | true =>
    have E2 := Lib.hid (E1.out.trans (if_pos (beq_iff_eq.1 h2)))
    go_wp2_with fail
    refine (cmp_at a.text b.text w3).mono ?_
    rintro e w4 ⟨rfl, rfl⟩
    go_wp2
    go_ret2
    exact ⟨by rw [E.out, E2.out]; rfl, Hm03.out⟩
  | false =>
    have h2' : ¬ a.kind = 2 := by simpa using h2
    have E2 := Lib.hid (E1.out.trans (if_neg h2'))
    clear h2'
    cases hya : a.yes with
    | true =>
      rw [hya] at E2 c4
      cases hyb : b.yes with
      | true =>
        rw [hyb] at E2 d4
        go_wp2_with fail
        refine (sign_at _ _ w3).mono ?_
        rintro e w4 ⟨rfl, rfl⟩
        go_wp2
        go_ret2
        exact ⟨by rw [E.out, E2.out]; rfl, Hm03.out⟩
      | false =>
        rw [hyb] at E2 d4
        go_wp2_with fail
        refine (sign_at _ _ w3).mono ?_
        rintro e w4 ⟨rfl, rfl⟩
        go_wp2
        go_ret2
        exact ⟨by rw [E.out, E2.out]; rfl, Hm03.out⟩
    | false =>
      rw [hya] at E2 c4
      cases hyb : b.yes with
      | true =>
        rw [hyb] at E2 d4
        go_wp2_with fail
        refine (sign_at _ _ w3).mono ?_
        rintro e w4 ⟨rfl, rfl⟩
        go_wp2
        go_ret2
        exact ⟨by rw [E.out, E2.out]; rfl, Hm03.out⟩
      | false =>
        rw [hyb] at E2 d4
        go_wp2_with fail
        refine (sign_at _ _ w3).mono ?_
        rintro e w4 ⟨rfl, rfl⟩
        go_wp2
        go_ret2
        exact ⟨by rw [E.out, E2.out]; rfl, Hm03.out⟩
end Go.Proofs.YtloplmaekonenaaGreatDoor
namespace Go.Proofs.YtloplmaekonenaaGreatDoor
set_option maxRecDepth 20000
open Go.RowKit
def Cnd.holds (c : Cnd) (v : V) : Bool :=
  if c.op = 7 then true else if c.op = 6 then (cmpV v c.v).2 && (v.kind == 2 && prefB v.text c.v.text) else if c.op = 0 then (cmpV v c.v).2 && (cmpV v c.v).1 == 0 else
  if c.op = 1 then (cmpV v c.v).2 && (cmpV v c.v).1 != 0 else if c.op = 2 then (cmpV v c.v).2 && decide ((cmpV v c.v).1 < 0) else if c.op = 3 then (cmpV v c.v).2 && decide ((cmpV v c.v).1 ≤ 0) else
  if c.op = 4 then (cmpV v c.v).2 && decide (0 < (cmpV v c.v).1) else if c.op = 5 then (cmpV v c.v).2 && decide (0 ≤ (cmpV v c.v).1) else false
theorem ret_bool {a b : Bool} (h : b = a) : Ending.returned (.bool a) = .returned (.bool b) := by rw [h]
set_option maxHeartbeats 8000000 in
theorem holds_at (c : Cnd) (v : V) (hc : c.v.text.size ≤ 9223372036854775807) (hv : v.text.size ≤ 9223372036854775807) (w : World) :
    Calls Tryz.prog 46 #[.agg c.cells.toArray, .agg v.cells.toArray] w fun e w' => e = .returned (.bool (c.holds v)) ∧ Mod (fun _ => False) w w' := by
  obtain ⟨wa, hwa⟩ : ∃ wa : World, w.alloc (.cells c.cells.toArray 81) = wa := ⟨_, rfl⟩
  have hmwa : Mod (fun _ => False) w wa := hwa ▸ (Mod.refl (fun _ => False) w).alloc _
  have hgwa := heap_alloc_new w (.cells c.cells.toArray 81)
  rw [hwa] at hgwa
  have hzwa : wa.heap.size = w.heap.size + 1 := by rw [← hwa]; simp
  obtain ⟨wb, hwb⟩ : ∃ wb : World, wa.alloc (.cells v.cells.toArray 79) = wb := ⟨_, rfl⟩
  have hmwb : Mod (fun _ => False) wa wb := hwb ▸ (Mod.refl (fun _ => False) wa).alloc _
  have hgwb := heap_alloc_new wa (.cells v.cells.toArray 79)
  rw [hwb] at hgwb
  have hzwb : wb.heap.size = wa.heap.size + 1 := by rw [← hwb]; simp
  have hmb := hmwa.trans hmwb (fun _ _ h => h)
  have hgA := hmwb.heap hgwa (fun h => h)
  have hcm := compare_at v c.v wb
  obtain ⟨R, hR⟩ : ∃ R, c.holds v = R := ⟨_, rfl⟩
  rw [hR]
  unfold Cnd.holds at hR
  obtain ⟨⟨n, ok⟩, hn⟩ : ∃ p, cmpV v c.v = p := ⟨_, rfl⟩
  rw [hn] at hcm hR
  simp only at hcm hR
  have hpf := fun wx => prefix_at v.text c.v.text hv hc wx
  have hlz : w.heap.size < wa.heap.size := by omega
  have Hwa := Lib.hid hwa
  have Hwb := Lib.hid hwb
  have Hmb := Lib.hid hmb
  have HgA := Lib.hid hgA
  have Hgwb := Lib.hid hgwb
  have Hcm := Lib.hid hcm
  have HR := Lib.hid hR
  have Hn := Lib.hid hn
  have Hpf := Lib.hid hpf
  clear hwa hwb hmb hgA hgwb hcm hR hn hpf hmwa hmwb hgwa hzwa hzwb hc hv
  go_enter Tryz.func46, Tryz.ntmps46
  go_wp2_with (first | (rw [show w.alloc _ = wa from Hwa.out]) | (rw [show wa.alloc _ = wb from Hwb.out]) | ((with_reducible refine wpList_load_lit 79 (.tmp 3) ?_); refine ⟨wa.heap.size, 0, rfl, v.cells, CellsAt.row Hgwb.out, by kernel_rfl, by kernel_rfl, ?_⟩) | ((with_reducible refine wpList_load_lit 79 (.tmp 9) ?_); refine ⟨w.heap.size, 2, rfl, c.v.cells, cells_from2 HgA.out, by kernel_rfl, by kernel_rfl, ?_⟩) | fail)
  refine Hcm.out.mono ?_
  rintro e w2 ⟨rfl, hm2⟩
  have hA2 := hm2.heap HgA.out (fun h => h)
  have hB2 := hm2.heap Hgwb.out (fun h => h)
  have hm02 := Hmb.out.trans hm2 (fun _ _ h => h)
  have c1 : w2.cell? ⟨w.heap.size, 1, none⟩ = some (.int .i64 c.op) := cell_of hA2 rfl
  have c5 : w2.cell? ⟨w.heap.size, 5, none⟩ = some (.string c.v.text) := cell_of hA2 rfl
  have d0 : w2.cell? ⟨wa.heap.size, 0, none⟩ = some (.int .i64 v.kind) := cell_of hB2 rfl
  have d3 : w2.cell? ⟨wa.heap.size, 3, none⟩ = some (.string v.text) := cell_of hB2 rfl
  have hpf2 := Hpf.out w2
  have Hm02 := Lib.hid hm02
  have Hpf2 := Lib.hid hpf2
  clear hm02 hpf2 hm2 hA2 hB2 Hcm HgA Hgwb Hpf Hwa Hwb Hmb
  cases ok with
  | false =>
    go_wp2
    all_goals (go_ret; refine ⟨ret_bool (HR.out.symm.trans (by (try simp only [beq_iff_eq, beq_eq_false_iff_ne, ne_eq] at *); simp [*])), Hm02.out⟩)
  | true =>
    cases hvk : v.kind == 2 with
    | false =>
      go_wp2
      all_goals (go_ret; refine ⟨ret_bool (HR.out.symm.trans (by (try simp only [beq_iff_eq, beq_eq_false_iff_ne, ne_eq] at *); simp [*])), Hm02.out⟩)
    | true =>
      go_wp2_with (refine Hpf2.out.mono ?_; rintro e w3 ⟨rfl, rfl⟩)
      all_goals (go_ret; refine ⟨ret_bool (HR.out.symm.trans (by (try simp only [beq_iff_eq, beq_eq_false_iff_ne, ne_eq] at *); simp [*])), Hm02.out⟩)
end Go.Proofs.YtloplmaekonenaaGreatDoor
namespace Go.Proofs.YtloplmaekonenaaGreatDoor
set_option maxRecDepth 20000
open Go.RowKit
theorem rd_att {w : World} {a : Option Addr} {cap : Nat} {l : List Att} {j : Nat} {x : Att} (h : RdSl w 6 (.slice a l.length cap) l.length (atts l)) (hx : l[j]? = some x) : ∃ g off, a = some ⟨g, off, none⟩ ∧ CellsAt w g (off + j * 6) x.cells := by
  obtain ⟨-, a', c', h1, -, h3, h4⟩ := h
  cases h1
  cases a with
  | none => have := (List.getElem?_eq_some_iff.1 hx).1; exact absurd (h3 rfl) (by omega)
  | some b =>
    obtain ⟨g', off', h5, h6⟩ := h4 _ rfl (by have := (List.getElem?_eq_some_iff.1 hx).1; omega)
    refine ⟨g', off', by rw [h5], fun i u hu => ?_⟩
    have := h6 (6 * j + i) u (atts_at _ hx hu)
    rw [show off' + j * 6 + i = off' + (6 * j + i) by omega]
    exact this
end Go.Proofs.YtloplmaekonenaaGreatDoor
namespace Go.Proofs.YtloplmaekonenaaGreatDoor
set_option maxRecDepth 20000
open Go.RowKit
theorem filter_take {α : Type} (p : α → Bool) {l : List α} {j : Nat} {x : α} (h : l[j]? = some x) : (l.take (j + 1)).filter p = (l.take j).filter p ++ (if p x = true then [x] else []) := by
  rw [List.take_add_one, List.filter_append, h]
  congr 1
  simp only [Option.toList, List.filter_cons, List.filter_nil]
end Go.Proofs.YtloplmaekonenaaGreatDoor
namespace Go.Proofs.YtloplmaekonenaaGreatDoor
set_option maxRecDepth 20000
open Go.RowKit
def ev7S (s : ByteArray) : ByteArray := if scRight s = true then s else ⟨#[]⟩
def ev7L (l : List Att) : List Att := ((newL l).filter fun a => evRight [a]).take 8
theorem take_filter_snoc {α : Type} (p : α → Bool) {l : List α} {j : Nat} {x : α} (h : l[j]? = some x) : ((l.take (j + 1)).filter p).take 8 = ((l.take j).filter p).take 8 ++ (if (decide ((((l.take j).filter p).take 8).length < 8) && p x) = true then [x] else []) := by
  rw [filter_take p h]
  generalize (l.take j).filter p = q
  rw [List.take_append]
  by_cases hp : p x = true
  · rw [if_pos hp, hp, Bool.and_true]
    by_cases hq : q.length < 8
    · rw [if_pos (by rw [List.length_take]; exact decide_eq_true (by omega)), List.take_of_length_le (by omega), List.take_of_length_le (by simp; omega)]
    · rw [if_neg (by rw [List.length_take]; simp; omega), show 8 - q.length = 0 by omega, List.take_zero]
  · have hp : p x = false := by simpa using hp
    rw [hp, Bool.and_false]
    simp
theorem ev7L_le (l : List Att) : (ev7L l).length ≤ 8 := by unfold ev7L; rw [List.length_take]; omega
theorem ev7L_mem {l : List Att} {a : Att} (h : a ∈ ev7L l) : a ∈ newL l ∧ evRight [a] = true := by
  have := List.mem_of_mem_take h
  exact List.mem_filter.1 this
theorem rises_pair {l : List Att} : rises l ↔ l.Pairwise (fun x y => Op.bytesLess x.name.data.toList y.name.data.toList = true) := by
  rw [List.pairwise_iff_getElem]
  constructor
  · intro h i j hi hj hij
    exact h i j _ _ hij (List.getElem?_eq_getElem hi) (List.getElem?_eq_getElem hj)
  · intro h i j x y hij hx hy
    obtain ⟨h1, rfl⟩ := List.getElem?_eq_some_iff.1 hx
    obtain ⟨h2, rfl⟩ := List.getElem?_eq_some_iff.1 hy
    exact h i j h1 h2 hij
theorem rises.sub {l m : List Att} (h : rises l) (hs : m.Sublist l) : rises m := rises_pair.2 ((rises_pair.1 h).sublist hs)
theorem ev7L_rises (l : List Att) : rises (ev7L l) := (newL_rises l).sub ((List.take_sublist _ _).trans List.filter_sublist)
set_option maxRecDepth 20000 in
set_option maxHeartbeats 8000000 in
theorem ev7_at (w : World) (s : ByteArray) (lv : Value) (l : List Att) (hv : RdSl w 6 lv l.length (atts l)) (hll : l.length ≤ 1000) (hs : s.size ≤ 9223372036854775807) (hsz : ∀ x ∈ newL l, x.name.size ≤ 9223372036854775807) :
    Calls Tryz.prog 17 #[.string s, lv] w fun e w' => ∃ av, e = .returned (.agg #[.string (ev7S s), av]) ∧ OwnSl w' 90 6 av (ev7L l).length (atts (ev7L l)) ∧
      (∀ b, av.ownBlock = some b → w.heap.size ≤ b) ∧ Mod (fun _ => False) w w' := by
  obtain ⟨a, cap, rfl⟩ : ∃ a c, lv = .slice a l.length c := by obtain ⟨-, a, c, h, -⟩ := hv; exact ⟨a, c, h⟩
  obtain ⟨wa, hwa⟩ : ∃ wa : World, w.alloc (.cells #[.string ⟨#[]⟩, .slice none 0 0] 32) = wa := ⟨_, rfl⟩
  have hmwa : Mod (fun _ => False) w wa := hwa ▸ (Mod.refl (fun _ => False) w).alloc _
  have hgwa := heap_alloc_new w (.cells #[.string ⟨#[]⟩, .slice none 0 0] 32)
  rw [hwa] at hgwa
  have hzwa : wa.heap.size = w.heap.size + 1 := by rw [← hwa]; simp
  have hsr := scope_right s (by omega) wa
  have hva := hv.mod hmwa (fun _ _ h => h)
  obtain ⟨sc, hsc⟩ : ∃ q, ev7S s = q := ⟨_, rfl⟩
  rw [hsc]
  have Hwa := Lib.hid hwa
  have Hmwa := Lib.hid hmwa
  have Hgwa := Lib.hid hgwa
  have Hsr := Lib.hid hsr
  have Hva := Lib.hid hva
  have Hsz := Lib.hid hsz
  clear hwa hmwa hgwa hsr hva hsz hv hs
  go_enter Tryz.func17, Tryz.ntmps17
  go_wp2_with (first | (rw [show w.alloc _ = wa from Hwa.out]) | fail)
  refine Hsr.out.mono ?_
  rintro e w1 ⟨rfl, hm1⟩
  have hg1 := hm1.heap Hgwa.out (fun h => h)
  have hm01 := Hmwa.out.trans hm1 (fun _ _ h => h)
  have hv1 := Hva.out.mod hm1 (fun _ _ h => h)
  have hnw := new_at w1 sc (.slice a l.length cap) l hv1 hll
  have Hg1 := Lib.hid hg1
  have Hm01 := Lib.hid hm01
  have Hnw := Lib.hid hnw
  clear hg1 hm01 hnw hm1 hv1 Hsr Hva Hmwa Hgwa Hwa
  go_upto_if 11 with fail
  go_cut [0] (fun s0 wx => s0 = .string sc ∧ wx = w1)
  case first =>
    cases hb : scRight s with
    | true =>
      have e : sc = s := by rw [← hsc]; unfold ev7S; rw [if_pos hb]
      have E := Lib.hid e
      clear hsc hb e
      go_wp2_with fail
      go_meet
      case rel => exact ⟨by rw [E.out], rfl⟩
    | false =>
      have e : sc = ⟨#[]⟩ := by rw [← hsc]; unfold ev7S; rw [if_neg (by rw [hb]; decide)]
      have E := Lib.hid e
      clear hsc hb e
      go_wp2_with fail
      go_meet
      case rel => exact ⟨by rw [E.out], rfl⟩
  case rest =>
    obtain ⟨rfl, rfl⟩ := hcut
    obtain ⟨wk, rfl⟩ : ∃ wk : World, wk = wc := ⟨_, rfl⟩
    clear hsc
    go_wp2_with fail
    refine Hnw.out.mono ?_
    rintro e w2 ⟨av, rfl, hown, hfr, hm2⟩
    have hm02 := Hm01.out.trans hm2 (fun _ _ h => h)
    have hg2 := hm2.heap Hg1.out (fun h => h)
    have hrr := newL_rises l
    have hlen := newL_length l
    have hev := ev7L_le l
    obtain ⟨L, hL⟩ : ∃ L, newL l = L := ⟨_, rfl⟩
    rw [hL] at hown hrr hlen
    obtain ⟨aa, ac, rfl, hac⟩ := hown.shape
    have hLl : (L.length : Int) ≤ 1000 := by omega
    obtain ⟨wb, hwb⟩ : ∃ wb : World, w2.alloc (.cells #[.string sc, .slice aa L.length ac] 32) = wb := ⟨_, rfl⟩
    have hmwb : Mod (fun _ => False) w2 wb := hwb ▸ (Mod.refl (fun _ => False) w2).alloc _
    have hgwb := heap_alloc_new w2 (.cells #[.string sc, .slice aa L.length ac] 32)
    rw [hwb] at hgwb
    have hzwb : wb.heap.size = w2.heap.size + 1 := by rw [← hwb]; simp
    obtain ⟨w6, hw6⟩ : ∃ w6 : World, wb.alloc (.cells #[.string sc, .slice none 0 0] 32) = w6 := ⟨_, rfl⟩
    have hmw6 : Mod (fun _ => False) wb w6 := hw6 ▸ (Mod.refl (fun _ => False) wb).alloc _
    have hgw6 := heap_alloc_new wb (.cells #[.string sc, .slice none 0 0] 32)
    rw [hw6] at hgw6
    have hzw6 : w6.heap.size = wb.heap.size + 1 := by rw [← hw6]; simp
    have hgb := hmw6.heap hgwb (fun h => h)
    have hg6 := (hmwb.trans hmw6 (fun _ _ h => h)).heap hg2 (fun h => h)
    have hrd := ((hown.mod hmwb (fun _ _ h => h)).mod hmw6 (fun _ _ h => h)).rd
    have hav : ∀ b, (Value.slice aa L.length ac).ownBlock = some b → b < wb.heap.size := fun b hb => by have := hown.lt b hb; omega
    have hz2 : w.heap.size < w2.heap.size := (Array.getElem?_eq_some_iff.1 hg2).1
    have hm06 := hm02.trans (hmwb.trans hmw6 (fun _ _ h => h)) (fun _ _ h => h)
    have hbz : w2.heap.size < wb.heap.size := by omega
    have hbz6 : wb.heap.size < w6.heap.size := by omega
    have hzb : w2.heap.size + 1 = wb.heap.size := by omega
    have hz6 : wb.heap.size + 1 = w6.heap.size := by omega
    have HL := Lib.hid hL
    have Hwb := Lib.hid hwb
    have Hw6 := Lib.hid hw6
    have Hgw6 := Lib.hid hgw6
    have Hgb := Lib.hid hgb
    have Hg6 := Lib.hid hg6
    have Hrd := Lib.hid hrd
    have Hav := Lib.hid hav
    have Hm06 := Lib.hid hm06
    have Hfr := Lib.hid hfr
    have Hzb := Lib.hid hzb
    have Hz6 := Lib.hid hz6
    clear hL hwb hw6 hgw6 hgb hg6 hrd hav hm06 hfr hzb hz6 hm02 hg2 hown hm2 hmwb hmw6 hgwb hzwb hzw6 Hnw Hm01 Hg1 hrr hlen
    have q0 : w6.cell? ⟨w2.heap.size, 0, none⟩ = some (.string sc) := cell_of Hgb.out rfl
    have q1 : w6.cell? ⟨w2.heap.size, 1, none⟩ = some (.slice aa L.length ac) := cell_of Hgb.out rfl
    go_wp2_with (first | ((with_reducible refine wpList_store_lit 32 (.tmp 5) (.tmp 14) ?_); refine ⟨rfl, [.string sc, .slice aa L.length ac], rfl, rfl, by kernel_rfl, rfl, ?_⟩; rw [Hwb.out]) | ((with_reducible refine wpList_store_lit 32 (.tmp 6) (.tmp 16) ?_); refine ⟨rfl, [.string sc, .slice none 0 0], rfl, rfl, by kernel_rfl, rfl, ?_⟩; rw [Hw6.out]) | fail)
    clear q0 q1
    go_loopw [20] (fun i wr => ∃ (j n : Nat) (oa : Option Addr) (oc : Nat), i = .int .i64 j ∧ j ≤ L.length ∧ n = (((L.take j).filter fun a => evRight [a]).take 8).length ∧ wr.heap[wb.heap.size]? = some (.cells #[.string sc, .slice oa n oc] 32 (0, 0)) ∧
      OwnSl wr 90 6 (.slice oa n oc) n (atts (((L.take j).filter fun a => evRight [a]).take 8)) ∧ (∀ b, (Value.slice oa n oc).ownBlock = some b → w6.heap.size ≤ b) ∧ Mod (fun k => k = wb.heap.size) w6 wr) (fun i _ => L.length - (intOf i).toNat)
    case atStart => exact ⟨0, 0, none, 0, rfl, Nat.zero_le _, rfl, Hgw6.out, OwnSl.nil _ _ _, fun b hb => (by cases hb), Mod.refl _ _⟩
    case round =>
      obtain ⟨j, n, oa, oc, rfl, hj, hn, hrow, hown, hfo, hmr⟩ := hrel
      by_cases hlt : j < L.length
      · have hlt' : (j : Int) < L.length := by omega
        obtain ⟨x, hxj⟩ : ∃ x, L[j]? = some x := ⟨_, List.getElem?_eq_getElem hlt⟩
        obtain ⟨g, off, rfl, hf⟩ : ∃ g off, aa = some ⟨g, off, none⟩ ∧ CellsAt wr g (off + j * 6) x.cells := rd_att (Hrd.out.mod hmr (fun b hb => by have := Hav.out b hb; omega)) hxj
        have hnx := take_filter_snoc (fun a => evRight [a]) hxj
        have hxn : x.name.size ≤ 9223372036854775807 := Hsz.out x (by rw [HL.out]; exact List.mem_of_getElem? hxj)
        have hn8 : n ≤ 8 := by rw [hn, List.length_take]; omega
        obtain ⟨acc, hacc⟩ : ∃ q, ((L.take j).filter fun a => evRight [a]).take 8 = q := ⟨_, rfl⟩
        rw [hacc] at hn hown hnx
        obtain ⟨nx, hnx'⟩ : ∃ q, ((L.take (j + 1)).filter fun a => evRight [a]).take 8 = q := ⟨_, rfl⟩
        rw [hnx', ← hn] at hnx
        obtain ⟨wz, hwz⟩ : ∃ wz : World, wr.alloc (.cells x.cells.toArray 90) = wz := ⟨_, rfl⟩
        have hmwz : Mod (fun _ => False) wr wz := hwz ▸ (Mod.refl (fun _ => False) wr).alloc _
        have hgwz := heap_alloc_new wr (.cells x.cells.toArray 90)
        rw [hwz] at hgwz
        have hzwz : wz.heap.size = wr.heap.size + 1 := by rw [← hwz]; simp
        have hlr : wb.heap.size < wr.heap.size := (Array.getElem?_eq_some_iff.1 hrow).1
        have hrowz := hmwz.heap hrow (fun h => h)
        have hownz := hown.mod hmwz (fun _ _ h => h)
        have hmz : Mod (fun k => k = wb.heap.size) w6 wz := hmr.trans hmwz (fun _ _ h => h.elim)
        have hlz2 : wr.heap.size < wz.heap.size := by omega
        have o0 : wz.cell? ⟨wb.heap.size, 0, none⟩ = some (.string sc) := cell_of hrowz rfl
        have o1 : wz.cell? ⟨wb.heap.size, 1, none⟩ = some (.slice oa n oc) := cell_of hrowz rfl
        have x0 : wz.cell? ⟨wr.heap.size, 0, none⟩ = some (.string x.name) := cell_of hgwz rfl
        have x1 : wz.cell? ⟨wr.heap.size, 1, none⟩ = some (.int .i64 x.v.kind) := cell_of hgwz rfl
        have x2 : wz.cell? ⟨wr.heap.size, 2, none⟩ = some (.int .i64 x.v.int) := cell_of hgwz rfl
        have x3 : wz.cell? ⟨wr.heap.size, 3, none⟩ = some (.float .f64 x.v.num) := cell_of hgwz rfl
        have x4 : wz.cell? ⟨wr.heap.size, 4, none⟩ = some (.string x.v.text) := cell_of hgwz rfl
        have x5 : wz.cell? ⟨wr.heap.size, 5, none⟩ = some (.bool x.v.yes) := cell_of hgwz rfl
        have Hxj := Lib.hid hxj
        have Hf := Lib.hid hf
        have Hwz := Lib.hid hwz
        have Hgwz := Lib.hid hgwz
        have Hrowz := Lib.hid hrowz
        have Hownz := Lib.hid hownz
        have Hmz := Lib.hid hmz
        have Hn := Lib.hid hn
        have Hnx := Lib.hid hnx
        have Hnx' := Lib.hid hnx'
        have Hfo := Lib.hid hfo
        clear hxj hf hwz hgwz hrowz hownz hmz hn hnx hnx' hfo hzwz hmwz hacc hrow hown hmr
        by_cases hn7 : n < 8
        · have hn7' : (n : Int) < 8 := by omega
          have hnx2 : nx = acc ++ (if evRight [x] = true then [x] else []) := by rw [Hnx.out, decide_eq_true hn7, Bool.true_and]
          obtain ⟨wS, hwS⟩ : ∃ wS : World, wz.alloc (.cells x.cells.toArray 90) = wS := ⟨_, rfl⟩
          have hmwS : Mod (fun _ => False) wz wS := hwS ▸ (Mod.refl (fun _ => False) wz).alloc _
          have hgwS := heap_alloc_new wz (.cells x.cells.toArray 90)
          rw [hwS] at hgwS
          have hzwS : wS.heap.size = wz.heap.size + 1 := by rw [← hwS]; simp
          have hwS' : wz.alloc (.cells #[.string x.name, .int .i64 x.v.kind, .int .i64 x.v.int, .float .f64 x.v.num, .string x.v.text, .bool x.v.yes] 90) = wS := hwS
          have hrdS : RdSl wS 6 (.slice (some ⟨wz.heap.size, 0, none⟩) 1 1) 1 x.cells := hwS ▸ RdSl.one wz x.cells 90 rfl
          have hrt := right_at ⟨#[]⟩ (.slice (some ⟨wz.heap.size, 0, none⟩) 1 1) [x] wS (by simpa [atts] using hrdS) (by simp) (fun y hy => by
            have : y = x := by simpa using hy
            rw [this]; exact hxn)
          have hrowS := hmwS.heap Hrowz.out (fun h => h)
          have hownS := Hownz.out.mod hmwS (fun _ _ h => h)
          have hmS : Mod (fun k => k = wb.heap.size) w6 wS := Hmz.out.trans hmwS (fun _ _ h => h.elim)
          have hgzS := hmwS.heap Hgwz.out (fun h => h)
          obtain ⟨RB, hRB⟩ : ∃ q, evRight [x] = q := ⟨_, rfl⟩
          rw [hRB] at hrt hnx2
          have HwS' := Lib.hid hwS'
          have Hrt := Lib.hid hrt
          have HrowS := Lib.hid hrowS
          have HownS := Lib.hid hownS
          have HmS := Lib.hid hmS
          have HgzS := Lib.hid hgzS
          have Hnx2 := Lib.hid hnx2
          clear hwS' hrt hrowS hownS hmS hgzS hnx2 hwS hmwS hgwS hzwS hrdS hRB Hrowz Hownz Hmz Hnx
          go_wp2_with (first | ((with_reducible refine wpList_load_lit 90 (.tmp 22) ?_); refine ⟨g, off + j * 6, rfl, x.cells, Hf.out, by kernel_rfl, by kernel_rfl, ?_⟩) | ((with_reducible refine wpList_store_lit 90 (.tmp 8) (.tmp 23) ?_); refine ⟨rfl, x.cells, rfl, rfl, by kernel_rfl, rfl, ?_⟩; rw [Hwz.out]) | (rw [show wz.alloc _ = wS from HwS'.out]) | fail)
          refine Hrt.out.mono ?_
          rintro e w3 ⟨rfl, hm3⟩
          have hrow3 := hm3.heap HrowS.out (fun h => h)
          have hown3 := HownS.out.mod hm3 (fun _ _ h => h)
          have hgz3 := hm3.heap HgzS.out (fun h => h)
          have hm63 : Mod (fun k => k = wb.heap.size) w6 w3 := HmS.out.trans hm3 (fun _ _ h => h.elim)
          have Hrow3 := Lib.hid hrow3
          have Hown3 := Lib.hid hown3
          have Hgz3 := Lib.hid hgz3
          have Hm63 := Lib.hid hm63
          clear hrow3 hown3 hgz3 hm63 hm3 o0 o1 x0 x1 x2 x3 x4 x5 Hrt HrowS HownS HgzS HmS
          cases RB with
          | false =>
            have hnx3 : nx = acc := by rw [Hnx2.out, if_neg (by decide), List.append_nil]
            have hown4 := Hown3.out
            rw [← hnx3, ← Hnx'.out] at hown4
            have hlen : n = (((L.take (j + 1)).filter fun a => evRight [a]).take 8).length := by rw [Hnx'.out, hnx3]; exact Hn.out
            have Hown4 := Lib.hid hown4
            have Hlen := Lib.hid hlen
            clear hown4 hlen hnx3
            go_wp2_with fail
            go_roundw
            case rel => exact ⟨j + 1, n, oa, oc, by go_num, hlt, Hlen.out, Hrow3.out, Hown4.out, Hfo.out, Hm63.out⟩
            case measure => simp [intOf]; omega
          | true =>
            have hnx3 : nx = acc ++ [x] := by rw [Hnx2.out, if_pos rfl]
            obtain ⟨wT, hwT⟩ : ∃ wT : World, w3.alloc (.cells x.cells.toArray 90) = wT := ⟨_, rfl⟩
            have hmwT : Mod (fun _ => False) w3 wT := hwT ▸ (Mod.refl (fun _ => False) w3).alloc _
            have hgwT := heap_alloc_new w3 (.cells x.cells.toArray 90)
            rw [hwT] at hgwT
            have hzwT : wT.heap.size = w3.heap.size + 1 := by rw [← hwT]; simp
            have hwT' : w3.alloc (.cells #[.string x.name, .int .i64 x.v.kind, .int .i64 x.v.int, .float .f64 x.v.num, .string x.v.text, .bool x.v.yes] 90) = wT := hwT
            have hrdT : RdSl wT 6 (.slice (some ⟨w3.heap.size, 0, none⟩) 1 1) 1 x.cells := hwT ▸ RdSl.one w3 x.cells 90 rfl
            have hone : ∀ u ∈ x.cells, u.oneCell' = true := fun u hu => List.all_eq_true.1 (show x.cells.all (·.oneCell') = true from rfl) u hu
            have hrowT := hmwT.heap Hrow3.out (fun h => h)
            have hownT := Hown3.out.mod hmwT (fun _ _ h => h)
            have hmT : Mod (fun k => k = wb.heap.size) w6 wT := Hm63.out.trans hmwT (fun _ _ h => h.elim)
            have hlen : n + 1 = (((L.take (j + 1)).filter fun a => evRight [a]).take 8).length := by rw [Hnx'.out, hnx3, List.length_append, ← Hn.out]; rfl
            have hatt : atts acc ++ x.cells = atts (((L.take (j + 1)).filter fun a => evRight [a]).take 8) := by rw [Hnx'.out, hnx3, atts_append]; simp [atts]
            have o1 : w3.cell? ⟨wb.heap.size, 1, none⟩ = some (.slice oa n oc) := cell_of Hrow3.out rfl
            have hl3 : wb.heap.size < w3.heap.size := (Array.getElem?_eq_some_iff.1 Hrow3.out).1
            have HwT' := Lib.hid hwT'
            have HrdT := Lib.hid hrdT
            have Hone := Lib.hid hone
            have HrowT := Lib.hid hrowT
            have HownT := Lib.hid hownT
            have HmT := Lib.hid hmT
            have Hlen := Lib.hid hlen
            have Hatt := Lib.hid hatt
            clear hwT' hrdT hone hrowT hownT hmT hlen hatt hwT hmwT hgwT hzwT hnx3
            go_wp2_with (first | ((with_reducible refine wpList_load_lit 90 (.tmp 8) ?_); refine ⟨wr.heap.size, 0, rfl, [.string x.name, .int .i64 x.v.kind, .int .i64 x.v.int, .float .f64 x.v.num, .string x.v.text, .bool x.v.yes], CellsAt.row Hgz3.out, by kernel_rfl, by kernel_rfl, ?_⟩) | (rw [show w3.alloc _ = wT from HwT'.out]) | ((with_reducible refine wpList_append_lit (.tmp 35) (.tmp 37) 30 ?_); refine ⟨rfl, 90, 6, 64, atts_T', .slice oa n oc, n, atts acc, rfl, HownT.out, _, 1, x.cells, rfl, HrdT.out, Hone.out, by omega, by unfold maxLen; omega, ?_⟩; intro ad cap2 w4 hA; have hne4 : ¬ inBlock (.slice oa n oc) wb.heap.size := (fun h => by have := Hfo.out _ h; omega); have hrow4 := hA.2.1.heap HrowT.out hne4; have f1 : w4.frozen? ⟨wb.heap.size, 1, none⟩ = false := fr_of hrow4; have e1 : w4.cell? ⟨wb.heap.size, 1, none⟩ = some (.slice oa n oc) := cell_of hrow4 rfl; have HA := Lib.hid hA; have Hrow4 := Lib.hid hrow4; have Hne4 := Lib.hid hne4; clear hA hrow4 hne4) | fail)
            have hfr5 : ∀ b, (Value.slice ad (n + 1) cap2).ownBlock = some b → w6.heap.size ≤ b := fun b hb => by
              rcases HA.out.2.2 with h | ⟨k, h, hk⟩
              · exact Hfo.out b (by rw [← h]; exact hb)
              · rw [h] at hb; cases hb
                have := HmT.out.size
                omega
            have hm4 : Mod (fun k => k = wb.heap.size) w6 w4 := HmT.out.upon HA.out.2.1 (fun b hb => .inr (Hfo.out b hb))
            have hown4 := HA.out.1
            rw [Hatt.out] at hown4
            have Hfr5 := Lib.hid hfr5
            have Hm4 := Lib.hid hm4
            have Hown4 := Lib.hid hown4
            clear hfr5 hm4 hown4 HA
            go_roundw
            case rel =>
              refine ⟨j + 1, n + 1, ad, cap2, by go_num, hlt, Hlen.out, heap_set Hrow4.out, Hown4.out.setCell (fun h => ?_) _, Hfr5.out, Hm4.out.setCell (fun _ => rfl) _⟩
              have := Hfr5.out _ h
              have h2 : w6.heap.size ≤ wb.heap.size := this
              omega
            case measure => simp [intOf]; omega
        · have hn7' : (8 : Int) ≤ n := by omega
          have hnx3 : nx = acc := by rw [Hnx.out, decide_eq_false hn7, Bool.false_and, if_neg (by decide), List.append_nil]
          have hown4 := Hownz.out
          rw [← hnx3, ← Hnx'.out] at hown4
          have hlen : n = (((L.take (j + 1)).filter fun a => evRight [a]).take 8).length := by rw [Hnx'.out, hnx3]; exact Hn.out
          have Hown4 := Lib.hid hown4
          have Hlen := Lib.hid hlen
          clear hown4 hlen hnx3
          go_wp2_with (first | ((with_reducible refine wpList_load_lit 90 (.tmp 22) ?_); refine ⟨g, off + j * 6, rfl, x.cells, Hf.out, by kernel_rfl, by kernel_rfl, ?_⟩) | ((with_reducible refine wpList_store_lit 90 (.tmp 8) (.tmp 23) ?_); refine ⟨rfl, x.cells, rfl, rfl, by kernel_rfl, rfl, ?_⟩; rw [Hwz.out]) | fail)
          go_roundw
          case rel => exact ⟨j + 1, n, oa, oc, by go_num, hlt, Hlen.out, Hrowz.out, Hown4.out, Hfo.out, Hmz.out⟩
          case measure => simp [intOf]; omega
      · obtain rfl : j = L.length := by omega
        rw [List.take_length] at hn hown
        have hown2 : OwnSl wr 90 6 (.slice oa n oc) n (atts (ev7L l)) := by unfold ev7L; rw [HL.out]; exact hown
        have hn2 : n = (ev7L l).length := by unfold ev7L; rw [HL.out]; exact hn
        have hgr := hmr.heap Hg6.out (by omega)
        have hm0r : Mod (fun _ => False) w wr := Hm06.out.upon hmr (fun b hb => .inr (by omega))
        have Hrow := Lib.hid hrow
        have Hown2 := Lib.hid hown2
        have Hn2 := Lib.hid hn2
        have Hgr := Lib.hid hgr
        have Hm0r := Lib.hid hm0r
        have Hfo := Lib.hid hfo
        clear hrow hown2 hn2 hgr hm0r hfo hown hn hmr
        go_wp2_with (first | ((with_reducible refine wpList_load_lit 32 (.tmp 6) ?_); refine ⟨wb.heap.size, 0, rfl, [.string sc, .slice oa n oc], CellsAt.row Hrow.out, by kernel_rfl, by kernel_rfl, ?_⟩) | ((with_reducible refine wpList_store_row_lit 32 (.tmp 4) (.tmp 41) ?_); refine ⟨w.heap.size, rfl, _, _, Hgr.out, [.string sc, .slice oa n oc], rfl, rfl, by kernel_rfl, rfl, ?_⟩; intro w9 hg9 hm9; have Hg9 := Lib.hid hg9; have Hm9 := Lib.hid hm9; clear hg9 hm9) | fail)
        refine bodyPost_cell rfl w.heap.size rfl _ (CellsAt.row Hg9.out) (by kernel_rfl) (by kernel_rfl) rfl ⟨.slice oa n oc, rfl, ?_, ?_, ?_⟩
        · rw [← Hn2.out]
          exact Hown2.out.mod Hm9.out (fun b hb => by have := Hfo.out b hb; have := Hm06.out.size; omega)
        · exact fun b hb => by have := Hfo.out b hb; have := Hm06.out.size; omega
        · exact Hm0r.out.upon Hm9.out (fun b hb => .inr (by omega))
end Go.Proofs.YtloplmaekonenaaGreatDoor
