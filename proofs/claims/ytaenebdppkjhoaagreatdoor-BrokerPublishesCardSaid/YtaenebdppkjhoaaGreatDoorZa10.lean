/-
  cond.Holds.
  copy into a row that is plain memory; append of so many noughts where there is no room; a list shifted in place.
  cond.Void; slices.IndexFunc and ContainsFunc of conditions over any call; filter.Void.
  filter.Match over whatever cond.Match answers; acl.Home; acl.MayPublish over whatever filter.Match answers.
  value.Same.
-/
import Derived.Test.YtaenebdppkjhoaaGreatDoorZa9
import Derived.Test.YtaenebdppkjhoaaGreatDoorZa6
import Derived.Laws.IdiomCopy
import Derived.Lib.Overlaps
import Derived.Test.YtaenebdppkjhoaaGreatDoorZa8
import Derived.Test.YtaenebdppkjhoaaGreatDoorZa2
namespace Go.Proofs.YtaenebdppkjhoaaGreatDoor
set_option maxRecDepth 20000
open Go.RowKit

/-- Does a value do? -/
def Cnd.holds (c : Cnd) (v : V) : Bool :=
  if c.op = 7 then true else if c.op = 6 then (cmpV v c.v).2 && (v.kind == 2 && prefB v.text c.v.text) else if c.op = 0 then (cmpV v c.v).2 && (cmpV v c.v).1 == 0 else
  if c.op = 1 then (cmpV v c.v).2 && (cmpV v c.v).1 != 0 else if c.op = 2 then (cmpV v c.v).2 && decide ((cmpV v c.v).1 < 0) else if c.op = 3 then (cmpV v c.v).2 && decide ((cmpV v c.v).1 ≤ 0) else
  if c.op = 4 then (cmpV v c.v).2 && decide (0 < (cmpV v c.v).1) else if c.op = 5 then (cmpV v c.v).2 && decide (0 ≤ (cmpV v c.v).1) else false

theorem ret_bool {a b : Bool} (h : b = a) : Ending.returned (.bool a) = .returned (.bool b) := by rw [h]

set_option maxHeartbeats 8000000 in
theorem holds_at (c : Cnd) (v : V) (hc : c.v.text.size ≤ 9223372036854775807) (hv : v.text.size ≤ 9223372036854775807) (w : World) :
    Calls Tryz.prog 121 #[.agg c.cells.toArray, .agg v.cells.toArray] w fun e w' => e = .returned (.bool (c.holds v)) ∧ Mod (fun _ => False) w w' := by
  obtain ⟨wa, hwa⟩ : ∃ wa : World, w.alloc (.cells c.cells.toArray 132) = wa := ⟨_, rfl⟩
  have hmwa : Mod (fun _ => False) w wa := hwa ▸ (Mod.refl (fun _ => False) w).alloc _
  have hgwa := heap_alloc_new w (.cells c.cells.toArray 132)
  rw [hwa] at hgwa
  have hzwa : wa.heap.size = w.heap.size + 1 := by rw [← hwa]; simp
  obtain ⟨wb, hwb⟩ : ∃ wb : World, wa.alloc (.cells v.cells.toArray 68) = wb := ⟨_, rfl⟩
  have hmwb : Mod (fun _ => False) wa wb := hwb ▸ (Mod.refl (fun _ => False) wa).alloc _
  have hgwb := heap_alloc_new wa (.cells v.cells.toArray 68)
  rw [hwb] at hgwb
  have hzwb : wb.heap.size = wa.heap.size + 1 := by rw [← hwb]; simp
  have hmb := hmwa.trans hmwb (fun _ _ h => h)
  have hgA := hmwb.heap hgwa (fun h => h)
  have hcm := compare_at v c.v wb
  obtain ⟨R, hR⟩ : ∃ R, c.holds v = R := ⟨_, rfl⟩
  rw [hR]
  unfold Cnd.holds at hR
  obtain ⟨⟨n, ok⟩, hn⟩ : ∃ p, cmpV v c.v = p := ⟨_, rfl⟩
  rw [hn] at hcm hR
  simp only at hcm hR
  have hpf := fun wx => prefix_at v.text c.v.text hv hc wx
  have hlz : w.heap.size < wa.heap.size := by omega
  have Hwa := Lib.hid hwa
  have Hwb := Lib.hid hwb
  have Hmb := Lib.hid hmb
  have HgA := Lib.hid hgA
  have Hgwb := Lib.hid hgwb
  have Hcm := Lib.hid hcm
  have HR := Lib.hid hR
  have Hn := Lib.hid hn
  have Hpf := Lib.hid hpf
  clear hwa hwb hmb hgA hgwb hcm hR hn hpf hmwa hmwb hgwa hzwa hzwb hc hv
  go_enter Tryz.func121, Tryz.ntmps121
  go_wp2_with (first | (rw [show w.alloc _ = wa from Hwa.out]) | (rw [show wa.alloc _ = wb from Hwb.out]) | ((with_reducible refine wpList_load_lit 68 (.tmp 3) ?_); refine ⟨wa.heap.size, 0, rfl, v.cells, CellsAt.row Hgwb.out, by kernel_rfl, by kernel_rfl, ?_⟩) | ((with_reducible refine wpList_load_lit 68 (.tmp 9) ?_); refine ⟨w.heap.size, 2, rfl, c.v.cells, cells_from2 HgA.out, by kernel_rfl, by kernel_rfl, ?_⟩) | fail)
  refine Hcm.out.mono ?_
  rintro e w2 ⟨rfl, hm2⟩
  have hA2 := hm2.heap HgA.out (fun h => h)
  have hB2 := hm2.heap Hgwb.out (fun h => h)
  have hm02 := Hmb.out.trans hm2 (fun _ _ h => h)
  have c1 : w2.cell? ⟨w.heap.size, 1, none⟩ = some (.int .i64 c.op) := cell_of hA2 rfl
  have c5 : w2.cell? ⟨w.heap.size, 5, none⟩ = some (.string c.v.text) := cell_of hA2 rfl
  have d0 : w2.cell? ⟨wa.heap.size, 0, none⟩ = some (.int .i64 v.kind) := cell_of hB2 rfl
  have d3 : w2.cell? ⟨wa.heap.size, 3, none⟩ = some (.string v.text) := cell_of hB2 rfl
  have hpf2 := Hpf.out w2
  have Hm02 := Lib.hid hm02
  have Hpf2 := Lib.hid hpf2
  clear hm02 hpf2 hm2 hA2 hB2 Hcm HgA Hgwb Hpf Hwa Hwb Hmb
  cases ok with
  | false =>
    go_wp2
    all_goals (go_ret; refine ⟨ret_bool (HR.out.symm.trans (by (try simp only [beq_iff_eq, beq_eq_false_iff_ne, ne_eq] at *); simp [*])), Hm02.out⟩)
  | true =>
    cases hvk : v.kind == 2 with
    | false =>
      go_wp2
      all_goals (go_ret; refine ⟨ret_bool (HR.out.symm.trans (by (try simp only [beq_iff_eq, beq_eq_false_iff_ne, ne_eq] at *); simp [*])), Hm02.out⟩)
    | true =>
      go_wp2_with (refine Hpf2.out.mono ?_; rintro e w3 ⟨rfl, rfl⟩)
      all_goals (go_ret; refine ⟨ret_bool (HR.out.symm.trans (by (try simp only [beq_iff_eq, beq_eq_false_iff_ne, ne_eq] at *); simp [*])), Hm02.out⟩)
end Go.Proofs.YtaenebdppkjhoaaGreatDoor

namespace Go.Proofs.YtaenebdppkjhoaaGreatDoor
set_option maxRecDepth 20000
open Go.RowKit

section
variable {P : Program} {w : World} {ops : Array Oper} {rest : List Oper} {a : Act} {Q : Exit → Act → World → Prop} {d : Option Tmp} {tp : TypeId} {pos : String} {af : Array Edge}
end

/-- A struct is written into a row, from some place on. -/
theorem run_store_part {P : Program} {w : World} (ty : TypeId) (g off : Nat) (cur : Array Value) (t : TypeId) (cs : List Value) (hg : w.heap[g]? = some (.cells cur t (0, 0))) (hl : off + cs.length ≤ cur.size)
    (hi : (P.info? ty).map (·.size) = some cs.length) (h1 : ∀ u ∈ cs, u.oneCell' = true) :
    (storeVar ty ⟨g, off, none⟩ (.agg cs.toArray)).run P w = .ok () (w.setRow g (cur.toList.take off ++ cs ++ cur.toList.drop (off + cs.length)).toArray) := by
  have hst := run_storeCells_at P g off t cs 0 cur w hg (by omega) h1
  cases hq : P.info? ty with
  | none => simp [hq] at hi
  | some i =>
    have hs : i.size = cs.length := by simpa [hq] using hi
    simp only [Nat.add_zero] at hst
    simp [storeVar, Value.cells, sizeOf, typeInfo, hq, hs, hst]
theorem wpList_store_part_lit {P : Program} {w : World} {ops : Array Oper} {rest : List Oper} {a : Act} {Q : Exit → Act → World → Prop} {d : Option Tmp} {tp : TypeId} {pos : String} {af : Array Edge} (ty : TypeId) (x y : Operand)
    (h : ∃ g off, a.eval x = .pointer (some ⟨g, off, none⟩) ∧ ∃ (cur : Array Value) (t : TypeId), w.heap[g]? = some (.cells cur t (0, 0)) ∧ ∃ cs : List Value, a.eval y = .agg cs.toArray ∧ off + cs.length ≤ cur.size ∧ (P.info? ty).map (·.size) = some cs.length ∧ cs.all (·.oneCell') = true ∧
      ∀ w', w' = w.setRow g (cur.toList.take off ++ cs ++ cur.toList.drop (off + cs.length)).toArray → Mod (fun k => k = g) w w' → wpList P ops Q rest (a.put d undef) w') : wpList P ops Q (⟨d, .store ty x y, tp, pos, af, none⟩ :: rest) a w := by
  obtain ⟨g, off, hx, cur, t, hg, cs, hy, hl, hi, h1, h⟩ := h
  refine wpList_plain rfl fun K hK => ?_
  have hr := run_store_part (P := P) (w := w) ty g off cur t cs hg hl hi (all_one h1)
  unfold Oper.wp execOp
  simp only [hx, hy, Instr.storeAt, Instr.sureAddr, Sem.run_bind, Sem.run_pure, Result.andThen_ok, hr]
  exact hK _ _ (h _ rfl ((Mod.refl (fun k => k = g) w).setRow (fun _ => rfl) _))

end Go.Proofs.YtaenebdppkjhoaaGreatDoor

namespace Go.Proofs.YtaenebdppkjhoaaGreatDoor
set_option maxRecDepth 20000
open Go.RowKit

/-- Does no value ever do? -/
def Cnd.voidB (c : Cnd) : Bool := (c.op != 7 && c.v.void) || (c.op == 6 && c.v.kind != 2)

set_option maxHeartbeats 2000000 in
theorem cond_void (c : Cnd) (w : World) : Calls Tryz.prog 147 #[.agg c.cells.toArray] w fun e w' => e = .returned (.bool c.voidB) ∧ Mod (fun _ => False) w w' := by
  obtain ⟨wa, hwa⟩ : ∃ wa : World, w.alloc (.cells c.cells.toArray 132) = wa := ⟨_, rfl⟩
  have hmwa : Mod (fun _ => False) w wa := hwa ▸ (Mod.refl (fun _ => False) w).alloc _
  have hgwa := heap_alloc_new w (.cells c.cells.toArray 132)
  rw [hwa] at hgwa
  have hzwa : wa.heap.size = w.heap.size + 1 := by rw [← hwa]; simp
  have c1 : wa.cell? ⟨w.heap.size, 1, none⟩ = some (.int .i64 c.op) := cell_of hgwa rfl
  have c2 : wa.cell? ⟨w.heap.size, 2, none⟩ = some (.int .i64 c.v.kind) := cell_of hgwa rfl
  have c3 : wa.cell? ⟨w.heap.size, 3, none⟩ = some (.int .i64 c.v.int) := cell_of hgwa rfl
  have c4 : wa.cell? ⟨w.heap.size, 4, none⟩ = some (.float .f64 c.v.num) := cell_of hgwa rfl
  have c5 : wa.cell? ⟨w.heap.size, 5, none⟩ = some (.string c.v.text) := cell_of hgwa rfl
  have c6 : wa.cell? ⟨w.heap.size, 6, none⟩ = some (.bool c.v.yes) := cell_of hgwa rfl
  have hvv := value_void c.v wa
  obtain ⟨R, hR⟩ : ∃ R, c.voidB = R := ⟨_, rfl⟩
  rw [hR]
  unfold Cnd.voidB at hR
  obtain ⟨vd, hvd⟩ : ∃ b, c.v.void = b := ⟨_, rfl⟩
  rw [hvd] at hvv hR
  have Hwa := Lib.hid hwa
  have Hmwa := Lib.hid hmwa
  have Hgwa := Lib.hid hgwa
  have Hvv := Lib.hid hvv
  have HR := Lib.hid hR
  clear hwa hmwa hgwa hvv hR hvd hzwa
  cases h7 : c.op == 7 with
  | true =>
    have h7n : (c.op != 7) = false := by simp [bne, h7]
    have h6 : (c.op == 6) = false := by rw [beq_iff_eq] at h7; rw [h7]; rfl
    go_enter Tryz.func147, Tryz.ntmps147
    go_wp2_with (first | (rw [show w.alloc _ = wa from Hwa.out]) | fail)
    go_ret
    exact ⟨ret_bool (HR.out.symm.trans (by simp [*])), Hmwa.out⟩
  | false =>
    have h7n : (c.op != 7) = true := by simp [bne, h7]
    go_enter Tryz.func147, Tryz.ntmps147
    go_wp2_with (first | (rw [show w.alloc _ = wa from Hwa.out]) | fail)
    refine Hvv.out.mono ?_
    rintro e w2 ⟨rfl, hm2⟩
    have hg2 := hm2.heap Hgwa.out (fun h => h)
    have d1 : w2.cell? ⟨w.heap.size, 1, none⟩ = some (.int .i64 c.op) := cell_of hg2 rfl
    have d2 : w2.cell? ⟨w.heap.size, 2, none⟩ = some (.int .i64 c.v.kind) := cell_of hg2 rfl
    have Hm2 := Lib.hid (Hmwa.out.trans hm2 (fun _ _ h => h))
    clear hm2 hg2 c1 c2 c3 c4 c5 c6
    cases vd with
    | true =>
      go_wp2
      go_ret
      exact ⟨ret_bool (HR.out.symm.trans (by simp [*])), Hm2.out⟩
    | false =>
      cases h6 : c.op == 6 with
      | true =>
        go_wp2
        go_ret
        exact ⟨ret_bool (HR.out.symm.trans (by simp [*])), Hm2.out⟩
      | false =>
        go_wp2
        go_ret
        exact ⟨ret_bool (HR.out.symm.trans (by simp [*])), Hm2.out⟩

end Go.Proofs.YtaenebdppkjhoaaGreatDoor

namespace Go.Proofs.YtaenebdppkjhoaaGreatDoor
set_option maxRecDepth 20000
open Go.RowKit

/-- A principal's broker, by the last rule that tells it. -/
def homeOf (l : List Ru) (tenant : Int) (who : ByteArray) : Option Int := (l.reverse.find? fun r => r.of 0 tenant who).map Ru.broker
theorem homeOf_some {l : List Ru} {tenant : Int} {who : ByteArray} {j : Nat} {x : Ru} (hx : l[j]? = some x) (h : x.of 0 tenant who = true) (hr : ∀ (k : Nat) (y : Ru), j < k → l[k]? = some y → y.of 0 tenant who = false) : homeOf l tenant who = some x.broker := by
  have hj := (List.getElem?_eq_some_iff.1 hx).1
  have hs : l = l.take j ++ x :: l.drop (j + 1) := by
    conv => lhs; rw [← List.take_append_drop j l, List.drop_eq_getElem_cons hj]
    rw [List.getElem?_eq_getElem hj] at hx
    cases hx; rfl
  unfold homeOf
  rw [hs, List.reverse_append, List.reverse_cons, List.append_assoc, List.find?_append, List.find?_eq_none.2 (fun y hy => by
    obtain ⟨k, hk⟩ := List.mem_iff_getElem?.1 (List.mem_reverse.1 hy)
    rw [List.getElem?_drop] at hk
    rw [hr _ y (by omega) hk]
    decide)]
  simp [h]
theorem homeOf_none {l : List Ru} {tenant : Int} {who : ByteArray} (hr : ∀ (k : Nat) (y : Ru), l[k]? = some y → y.of 0 tenant who = false) : homeOf l tenant who = none := by
  unfold homeOf
  rw [List.find?_eq_none.2 (fun y hy => by
    obtain ⟨k, hk⟩ := List.mem_iff_getElem?.1 (List.mem_reverse.1 hy)
    rw [hr k y hk]
    decide)]
  rfl

set_option maxHeartbeats 2000000 in
theorem home_at (w : World) (v : Value) (l : List Ru) (hv : RuSl w v l) (hll : l.length ≤ 9223372036854775807) (tenant : Int) (who : ByteArray) :
    Calls Tryz.prog 85 #[v, .int .i64 tenant, .string who] w fun e w' => e = .returned (.tuple #[.int .i64 ((homeOf l tenant who).getD 0), .bool (homeOf l tenant who).isSome]) ∧ Mod (fun _ => False) w w' := by
  obtain ⟨a, cap, rfl, hcap⟩ : ∃ a c, v = .slice a l.length c ∧ l.length ≤ c := by obtain ⟨-, a, c, h, h2, -⟩ := hv.rd; exact ⟨a, c, h, h2⟩
  have hll' : (l.length : Int) ≤ 9223372036854775807 := by omega
  have hcap' : (l.length : Int) ≤ cap := by omega
  have hl0 : (0 : Int) ≤ l.length := by omega
  obtain ⟨R, hR⟩ : ∃ R, homeOf l tenant who = R := ⟨_, rfl⟩
  rw [hR]
  have Hv := Lib.hid hv
  have HR := Lib.hid hR
  clear hv hR hll
  go_enter Tryz.func85, Tryz.ntmps85
  go_wp2_with fail
  go_loopw [8] (fun i wr => ∃ x : Int, i = .int .i64 x ∧ -1 ≤ x ∧ x < l.length ∧ Mod (fun _ => False) w wr ∧ (∀ (k : Nat) (y : Ru), x < k → l[k]? = some y → y.of 0 tenant who = false)) (fun i _ => (intOf i + 1).toNat)
  case atStart => exact ⟨(l.length : Int) - 1, rfl, by omega, by omega, Mod.refl _ _, fun k y hk hy => by have := (List.getElem?_eq_some_iff.1 hy).1; omega⟩
  case round =>
    obtain ⟨x, rfl, hx0, hxl, hmr, hall⟩ := hrel
    by_cases hlt : 0 ≤ x
    · obtain ⟨j, rfl⟩ : ∃ j : Nat, x = j := ⟨x.toNat, by omega⟩
      obtain ⟨r, hrj⟩ : ∃ x, l[j]? = some x := ⟨_, List.getElem?_eq_getElem (by omega)⟩
      obtain ⟨g, off, rfl, hf⟩ : ∃ g off, a = some ⟨g, off, none⟩ ∧ CellsAt wr g (off + j * 8) r.cells := rd_rule (Hv.out.mod hmr) hrj
      have hof := of_at r 0 tenant who wr
      have Hmr := Lib.hid hmr
      have Hall := Lib.hid hall
      have Hrj := Lib.hid hrj
      have Hf := Lib.hid hf
      have Hof := Lib.hid hof
      clear hmr hall hrj hf hof hx0
      go_wp2_with (first | ((with_reducible refine wpList_load_lit 35 (.tmp 18) ?_); refine ⟨g, off + j * 8, rfl, r.cells, Hf.out, by kernel_rfl, by kernel_rfl, ?_⟩) | fail)
      refine Hof.out.mono ?_
      rintro e w3 ⟨rfl, hm3⟩
      have hf3 := Hf.out.mod hm3 (fun h => h)
      have b3 : w3.cell? ⟨g, off + j * 8 + 3, none⟩ = some (.int .i64 r.broker) := hf3 3 _ rfl
      have Hm3 := Lib.hid (Hmr.out.trans hm3 (fun _ _ h => h))
      clear hm3 hf3
      cases hs : r.of 0 tenant who with
      | true =>
        have Hs := Lib.hid hs
        clear hs
        go_wp2
        go_ret2
        refine ⟨?_, Hm3.out⟩
        rw [← HR.out, homeOf_some Hrj.out Hs.out (fun k y hk hy => Hall.out k y (by omega) hy)]
        rfl
      | false =>
        have Hs := Lib.hid hs
        clear hs
        go_wp2_with fail
        go_roundw
        case rel =>
          refine ⟨(j : Int) - 1, rfl, by omega, by omega, Hm3.out, fun k y hk hy => ?_⟩
          rcases Nat.lt_or_eq_of_le (show j ≤ k by omega) with hk | rfl
          · exact Hall.out k y (by omega) hy
          · rw [Hrj.out] at hy; cases hy; exact Hs.out
        case measure => simp [intOf]; try omega
    · have hlt' : x < 0 := by omega
      have Hmr := Lib.hid hmr
      have Hall := Lib.hid hall
      clear hmr hall
      go_wp2
      go_ret2
      refine ⟨?_, Hmr.out⟩
      rw [← HR.out, homeOf_none (fun k y hy => Hall.out k y (by omega) hy)]
      rfl

end Go.Proofs.YtaenebdppkjhoaaGreatDoor

namespace Go.Proofs.YtaenebdppkjhoaaGreatDoor
set_option maxRecDepth 20000
open Go.RowKit

theorem same_at2 (x y : Nat) (hx : x < 2 ^ 64) (hy : y < 2 ^ 64) (w : World) :
    Calls Tryz.prog 113 #[.float .f64 x, .float .f64 y] w fun e w' => e = .returned (.bool (keyB x == keyB y)) ∧ w' = w := by
  have Hk1 := Lib.hid (key_at x hx w)
  have Hk2 := Lib.hid (key_at y hy w)
  go_enter Tryz.func113, Tryz.ntmps113
  go_wp2_with fail
  refine Hk1.out.mono ?_
  rintro e w1 ⟨rfl, rfl⟩
  go_wp2_with fail
  refine Hk2.out.mono ?_
  rintro e w2 ⟨rfl, rfl⟩
  go_wp2
  go_ret
  refine ⟨congrArg (fun b => Ending.returned (.bool b)) ?_, rfl⟩
  by_cases h : keyB x = keyB y
  · rw [h]; simp
  · rw [beq_eq_false_iff_ne.2 h, beq_eq_false_iff_ne.2 (by omega)]

/-- The same values? -/
def V.same (a b : V) : Bool := a.kind == b.kind && (if a.kind = 0 then a.int == b.int else if a.kind = 1 then keyB a.num == keyB b.num else if a.kind = 2 then a.text.toList == b.text.toList else a.yes == b.yes)

theorem value_same (a b : V) (ha : a.num < 2 ^ 64) (hb : b.num < 2 ^ 64) (w : World) :
    Calls Tryz.prog 80 #[.agg a.cells.toArray, .agg b.cells.toArray] w fun e w' => e = .returned (.bool (V.same a b)) ∧ Mod (fun _ => False) w w' := by
  obtain ⟨k1, i1, n1, t1, y1⟩ := a
  obtain ⟨k2, i2, n2, t2, y2⟩ := b
  have hsm := fun w => same_at2 n1 n2 ha hb w
  have Hsm := Lib.hid hsm
  have hm2 : ∀ A B : Obj, Mod (fun _ => False) w ((w.alloc A).alloc B) := fun A B => ((Mod.refl _ w).alloc _).alloc _
  have Hm2 := Lib.hid hm2
  clear hsm hm2 ha hb
  unfold V.cells V.same
  by_cases hk : k1 = k2
  · subst hk
    have hkk : (k1 == k1) = true := by simp
    simp only [hkk, Bool.true_and]
    rcases (by omega : k1 = 0 ∨ k1 = 1 ∨ k1 = 2 ∨ (k1 ≠ 0 ∧ k1 ≠ 1 ∧ k1 ≠ 2)) with h | h | h | ⟨h0, h1, h2⟩
    · subst h
      rw [if_pos rfl]
      go_enter Tryz.func80, Tryz.ntmps80
      go_wp2
      go_ret
      exact ⟨rfl, Hm2.out _ _⟩
    · subst h
      rw [if_neg (by decide), if_pos rfl]
      go_enter Tryz.func80, Tryz.ntmps80
      go_wp2_with fail
      refine (Hsm.out _).mono ?_
      rintro e w2 ⟨rfl, rfl⟩
      go_wp2
      go_ret
      exact ⟨rfl, Hm2.out _ _⟩
    · subst h
      rw [if_neg (by decide), if_neg (by decide), if_pos rfl]
      go_enter Tryz.func80, Tryz.ntmps80
      go_wp2
      go_ret
      exact ⟨rfl, Hm2.out _ _⟩
    · rw [if_neg h0, if_neg h1, if_neg h2]
      go_enter Tryz.func80, Tryz.ntmps80
      go_wp2
      go_ret
      exact ⟨rfl, Hm2.out _ _⟩
  · have hkk : (k1 == k2) = false := beq_eq_false_iff_ne.2 hk
    have hkn : (k1 != k2) = true := by simp [bne, hkk]
    simp only [hkk, Bool.false_and]
    go_enter Tryz.func80, Tryz.ntmps80
    go_wp2
    go_ret
    exact ⟨rfl, Hm2.out _ _⟩
end Go.Proofs.YtaenebdppkjhoaaGreatDoor
