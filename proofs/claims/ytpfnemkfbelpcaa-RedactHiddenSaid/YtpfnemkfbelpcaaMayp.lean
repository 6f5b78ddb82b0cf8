/-
  filter.Match over whatever cond.Match answers; acl.Home; acl.MayPublish over whatever filter.Match answers.
-/
import Derived.Test.YtpfnemkfbelpcaaUnder
namespace Go.Proofs.Ytpfnemkfbelpcaa
set_option maxRecDepth 20000
open Go.RowKit

set_option maxHeartbeats 2000000 in
theorem match_over (f : Cnd → Bool) (w : World) (sc : ByteArray) (cv : Value) (l : List Cnd) (es : ByteArray) (ev : Value) (ea : Option Addr) (en ec : Nat) (hev : ev = .slice ea en ec) (hv : RdSl w 7 cv l.length (cnds l)) (hll : l.length ≤ 9223372036854775807) (hsc : sc.size ≤ 9223372036854775807) (hes : es.size ≤ 9223372036854775807)
    (hm : ∀ c ∈ l, ∀ wx, Mod (fun _ => False) w wx → Calls Try.prog 72 #[.agg c.cells.toArray, .agg #[.string es, ev]] wx fun e w' => e = .returned (.bool (f c)) ∧ Mod (fun _ => False) wx w') :
    Calls Try.prog 53 #[.agg #[.string sc, cv], .agg #[.string es, ev]] w fun e w' => e = .returned (.bool (l.all f && underB es sc)) ∧ Mod (fun _ => False) w w' := by
  subst hev
  obtain ⟨a, cap, rfl, hcap⟩ : ∃ a c, cv = .slice a l.length c ∧ l.length ≤ c := by obtain ⟨-, a, c, h, h2, -⟩ := hv; exact ⟨a, c, h, h2⟩
  have hll' : (l.length : Int) ≤ 9223372036854775807 := by omega
  have hcap' : (l.length : Int) ≤ cap := by omega
  obtain ⟨wa, hwa⟩ : ∃ wa : World, w.alloc (.cells #[.string sc, .slice a l.length cap] 33) = wa := ⟨_, rfl⟩
  have hmwa : Mod (fun _ => False) w wa := hwa ▸ (Mod.refl (fun _ => False) w).alloc _
  have hgwa := heap_alloc_new w (.cells #[.string sc, .slice a l.length cap] 33)
  rw [hwa] at hgwa
  have hzwa : wa.heap.size = w.heap.size + 1 := by rw [← hwa]; simp
  obtain ⟨wb, hwb⟩ : ∃ wb : World, wa.alloc (.cells #[.string es, .slice ea en ec] 40) = wb := ⟨_, rfl⟩
  have hmwb : Mod (fun _ => False) wa wb := hwb ▸ (Mod.refl (fun _ => False) wa).alloc _
  have hgwb := heap_alloc_new wa (.cells #[.string es, .slice ea en ec] 40)
  rw [hwb] at hgwb
  have hzwb : wb.heap.size = wa.heap.size + 1 := by rw [← hwb]; simp
  have hmb := hmwa.trans hmwb (fun _ _ h => h)
  have hva := hv.mod hmb (fun _ _ h => h)
  have hg := hmwb.heap hgwa (fun h => h)
  have c0 : wb.cell? ⟨w.heap.size, 0, none⟩ = some (.string sc) := cell_of hg rfl
  have c1 : wb.cell? ⟨w.heap.size, 1, none⟩ = some (.slice a l.length cap) := cell_of hg rfl
  obtain ⟨R, hR⟩ : ∃ R, (l.all f && underB es sc) = R := ⟨_, rfl⟩
  rw [hR]
  have hqz : w.heap.size < wa.heap.size := by omega
  have Hv := Lib.hid hv
  have Hm := Lib.hid hm
  have Hwa := Lib.hid hwa
  have Hwb := Lib.hid hwb
  have Hmb := Lib.hid hmb
  have Hgwa := Lib.hid hgwa
  have Hgwb := Lib.hid hgwb
  have Hva := Lib.hid hva
  have HR := Lib.hid hR
  have Hg := Lib.hid hg
  have Hsc := Lib.hid hsc
  have Hes := Lib.hid hes
  have Hmwa := Lib.hid hmwa
  have Hmwb := Lib.hid hmwb
  clear hv hm hwa hwb hmb hgwa hgwb hva hR hg hsc hes hmwa hmwb hzwa hzwb hll
  go_enter Try.func53, Try.ntmps53
  go_wp2_with (first | (rw [show w.alloc _ = wa from Hwa.out]) | (rw [show wa.alloc _ = wb from Hwb.out]) | fail)
  go_loopw [10] (fun i wr => ∃ j : Nat, i = .int .i64 j ∧ j ≤ l.length ∧ Mod (fun _ => False) wb wr ∧ (∀ (k : Nat) (x : Cnd), k < j → l[k]? = some x → f x = true)) (fun i _ => l.length - (intOf i).toNat)
  case atStart => exact ⟨0, rfl, Nat.zero_le _, Mod.refl _ _, fun k x hk => by omega⟩
  case round =>
    obtain ⟨j, rfl, hj, hmr, hall⟩ := hrel
    by_cases hlt : j < l.length
    · have hlt' : (j : Int) < l.length := by omega
      obtain ⟨x, hxj⟩ : ∃ x, l[j]? = some x := ⟨_, List.getElem?_eq_getElem hlt⟩
      have hxm := List.mem_of_getElem? hxj
      obtain ⟨g, off, rfl, hf⟩ : ∃ g off, a = some ⟨g, off, none⟩ ∧ CellsAt wr g (off + j * 7) x.cells := rd_cnd (Hva.out.mod hmr (fun _ _ h => h)) hxj
      obtain ⟨wz, hwz⟩ : ∃ wz : World, wr.alloc (.cells x.cells.toArray 68) = wz := ⟨_, rfl⟩
      have hmwz : Mod (fun _ => False) wr wz := hwz ▸ (Mod.refl (fun _ => False) wr).alloc _
      have hgwz := heap_alloc_new wr (.cells x.cells.toArray 68)
      rw [hwz] at hgwz
      have hzwz : wz.heap.size = wr.heap.size + 1 := by rw [← hwz]; simp
      have hmz := hmr.trans hmwz (fun _ _ h => h)
      have hge := hmz.heap Hgwb.out (fun h => h)
      have e0 : wz.cell? ⟨wa.heap.size, 0, none⟩ = some (.string es) := cell_of hge rfl
      have e1 : wz.cell? ⟨wa.heap.size, 1, none⟩ = some (.slice ea en ec) := cell_of hge rfl
      have hcr := Hm.out x hxm wz (Hmb.out.trans hmz (fun _ _ h => h))
      have Hmr := Lib.hid hmr
      have Hall := Lib.hid hall
      have Hxj := Lib.hid hxj
      have Hxm := Lib.hid hxm
      have Hf := Lib.hid hf
      have Hwz := Lib.hid hwz
      have Hmwz := Lib.hid hmwz
      have Hgwz := Lib.hid hgwz
      have Hmz := Lib.hid hmz
      have Hcr := Lib.hid hcr
      clear hmr hall hxj hxm hf hwz hmwz hgwz hmz hcr hzwz hge c0 c1
      go_wp2_with (first | ((with_reducible refine wpList_load_lit 68 (.tmp 12) ?_); refine ⟨g, off + j * 7, rfl, x.cells, Hf.out, by kernel_rfl, by kernel_rfl, ?_⟩) | ((with_reducible refine wpList_store_lit 68 (.tmp 6) (.tmp 13) ?_); refine ⟨rfl, x.cells, rfl, rfl, by kernel_rfl, rfl, ?_⟩; rw [Hwz.out]) | ((with_reducible refine wpList_load_lit 68 (.tmp 6) ?_); refine ⟨wr.heap.size, 0, rfl, x.cells, CellsAt.row Hgwz.out, by kernel_rfl, by kernel_rfl, ?_⟩) | fail)
      refine Hcr.out.mono ?_
      rintro e w3 ⟨rfl, hm3⟩
      have Hm3 := Lib.hid (Hmz.out.trans hm3 (fun _ _ h => h))
      clear hm3 e0 e1
      cases hs : f x with
      | true =>
        have Hs := Lib.hid hs
        clear hs
        go_wp2_with fail
        go_roundw
        case rel =>
          refine ⟨j + 1, by go_num, hlt, Hm3.out, fun k x' hk hx' => ?_⟩
          rcases Nat.lt_succ_iff_lt_or_eq.1 hk with hk | rfl
          · exact Hall.out k x' hk hx'
          · rw [Hxj.out] at hx'; cases hx'; exact Hs.out
        case measure => simp [intOf]; omega
      | false =>
        have Hs := Lib.hid hs
        clear hs
        go_wp2
        go_ret
        refine ⟨?_, Hmb.out.trans Hm3.out (fun _ _ h => h)⟩
        rw [← HR.out, List.all_eq_false.2 ⟨x, Hxm.out, by rw [Hs.out]; decide⟩, Bool.false_and]
        rfl
    · obtain rfl : j = l.length := by omega
      have hgr := hmr.heap Hg.out (fun h => h)
      have hge := hmr.heap Hgwb.out (fun h => h)
      have c0 : wr.cell? ⟨w.heap.size, 0, none⟩ = some (.string sc) := cell_of hgr rfl
      have e0 : wr.cell? ⟨wa.heap.size, 0, none⟩ = some (.string es) := cell_of hge rfl
      have hun := under_at es sc Hes.out Hsc.out wr
      have hfr : R = underB es sc := by
        rw [← HR.out, List.all_eq_true.2 fun x hx => by
          obtain ⟨k, hk⟩ := List.mem_iff_getElem?.1 hx
          exact hall k x (List.getElem?_eq_some_iff.1 hk).1 hk, Bool.true_and]
      have hmr2 := Hmb.out.trans hmr (fun _ _ h => h)
      have Hmr2 := Lib.hid hmr2
      have Hun := Lib.hid hun
      have Hfr := Lib.hid hfr
      clear hmr2 hun hfr hmr hall hgr hge
      go_wp2_with fail
      refine Hun.out.mono ?_
      rintro e w3 ⟨rfl, rfl⟩
      go_wp2
      go_ret
      refine ⟨?_, Hmr2.out⟩
      rw [Hfr.out]
      rfl

/-- A principal's broker, by the last rule that tells it. -/
def homeOf (l : List Ru) (tenant : Int) (who : ByteArray) : Option Int := (l.reverse.find? fun r => r.of 0 tenant who).map Ru.broker
theorem homeOf_some {l : List Ru} {tenant : Int} {who : ByteArray} {j : Nat} {x : Ru} (hx : l[j]? = some x) (h : x.of 0 tenant who = true) (hr : ∀ (k : Nat) (y : Ru), j < k → l[k]? = some y → y.of 0 tenant who = false) : homeOf l tenant who = some x.broker := by
  have hj := (List.getElem?_eq_some_iff.1 hx).1
  have hs : l = l.take j ++ x :: l.drop (j + 1) := by
    conv => lhs; rw [← List.take_append_drop j l, List.drop_eq_getElem_cons hj]
    rw [List.getElem?_eq_getElem hj] at hx
    cases hx; rfl
  unfold homeOf
  rw [hs, List.reverse_append, List.reverse_cons, List.append_assoc, List.find?_append, List.find?_eq_none.2 (fun y hy => by
    obtain ⟨k, hk⟩ := List.mem_iff_getElem?.1 (List.mem_reverse.1 hy)
    rw [List.getElem?_drop] at hk
    rw [hr _ y (by omega) hk]
    decide)]
  simp [h]
theorem homeOf_none {l : List Ru} {tenant : Int} {who : ByteArray} (hr : ∀ (k : Nat) (y : Ru), l[k]? = some y → y.of 0 tenant who = false) : homeOf l tenant who = none := by
  unfold homeOf
  rw [List.find?_eq_none.2 (fun y hy => by
    obtain ⟨k, hk⟩ := List.mem_iff_getElem?.1 (List.mem_reverse.1 hy)
    rw [hr k y hk]
    decide)]
  rfl

set_option maxHeartbeats 2000000 in
theorem home_at (w : World) (v : Value) (l : List Ru) (hv : RuSl w v l) (hll : l.length ≤ 9223372036854775807) (tenant : Int) (who : ByteArray) :
    Calls Try.prog 32 #[v, .int .i64 tenant, .string who] w fun e w' => e = .returned (.tuple #[.int .i64 ((homeOf l tenant who).getD 0), .bool (homeOf l tenant who).isSome]) ∧ Mod (fun _ => False) w w' := by
  obtain ⟨a, cap, rfl, hcap⟩ : ∃ a c, v = .slice a l.length c ∧ l.length ≤ c := by obtain ⟨-, a, c, h, h2, -⟩ := hv.rd; exact ⟨a, c, h, h2⟩
  have hll' : (l.length : Int) ≤ 9223372036854775807 := by omega
  have hcap' : (l.length : Int) ≤ cap := by omega
  have hl0 : (0 : Int) ≤ l.length := by omega
  obtain ⟨R, hR⟩ : ∃ R, homeOf l tenant who = R := ⟨_, rfl⟩
  rw [hR]
  have Hv := Lib.hid hv
  have HR := Lib.hid hR
  clear hv hR hll
  go_enter Try.func32, Try.ntmps32
  go_wp2_with fail
  go_loopw [8] (fun i wr => ∃ x : Int, i = .int .i64 x ∧ -1 ≤ x ∧ x < l.length ∧ Mod (fun _ => False) w wr ∧ (∀ (k : Nat) (y : Ru), x < k → l[k]? = some y → y.of 0 tenant who = false)) (fun i _ => (intOf i + 1).toNat)
  case atStart => exact ⟨(l.length : Int) - 1, rfl, by omega, by omega, Mod.refl _ _, fun k y hk hy => by have := (List.getElem?_eq_some_iff.1 hy).1; omega⟩
  case round =>
    obtain ⟨x, rfl, hx0, hxl, hmr, hall⟩ := hrel
    by_cases hlt : 0 ≤ x
    · obtain ⟨j, rfl⟩ : ∃ j : Nat, x = j := ⟨x.toNat, by omega⟩
      obtain ⟨r, hrj⟩ : ∃ x, l[j]? = some x := ⟨_, List.getElem?_eq_getElem (by omega)⟩
      obtain ⟨g, off, rfl, hf⟩ : ∃ g off, a = some ⟨g, off, none⟩ ∧ CellsAt wr g (off + j * 8) r.cells := rd_rule (Hv.out.mod hmr) hrj
      have hof := of_at r 0 tenant who wr
      have Hmr := Lib.hid hmr
      have Hall := Lib.hid hall
      have Hrj := Lib.hid hrj
      have Hf := Lib.hid hf
      have Hof := Lib.hid hof
      clear hmr hall hrj hf hof hx0
      go_wp2_with (first | ((with_reducible refine wpList_load_lit 35 (.tmp 18) ?_); refine ⟨g, off + j * 8, rfl, r.cells, Hf.out, by kernel_rfl, by kernel_rfl, ?_⟩) | fail)
      refine Hof.out.mono ?_
      rintro e w3 ⟨rfl, hm3⟩
      have hf3 := Hf.out.mod hm3 (fun h => h)
      have b3 : w3.cell? ⟨g, off + j * 8 + 3, none⟩ = some (.int .i64 r.broker) := hf3 3 _ rfl
      have Hm3 := Lib.hid (Hmr.out.trans hm3 (fun _ _ h => h))
      clear hm3 hf3
      cases hs : r.of 0 tenant who with
      | true =>
        have Hs := Lib.hid hs
        clear hs
        go_wp2
        go_ret2
        refine ⟨?_, Hm3.out⟩
        rw [← HR.out, homeOf_some Hrj.out Hs.out (fun k y hk hy => Hall.out k y (by omega) hy)]
        rfl
      | false =>
        have Hs := Lib.hid hs
        clear hs
        go_wp2_with fail
        go_roundw
        case rel =>
          refine ⟨(j : Int) - 1, rfl, by omega, by omega, Hm3.out, fun k y hk hy => ?_⟩
          rcases Nat.lt_or_eq_of_le (show j ≤ k by omega) with hk | rfl
          · exact Hall.out k y (by omega) hy
          · rw [Hrj.out] at hy; cases hy; exact Hs.out
        case measure => simp [intOf]; try omega
    · have hlt' : x < 0 := by omega
      have Hmr := Lib.hid hmr
      have Hall := Lib.hid hall
      clear hmr hall
      go_wp2
      go_ret2
      refine ⟨?_, Hmr.out⟩
      rw [← HR.out, homeOf_none (fun k y hy => Hall.out k y (by omega) hy)]
      rfl

set_option maxHeartbeats 4000000 in
theorem may_publish (m : Ru → Bool) (w : World) (v : Value) (l : List Ru) (hv : RuSl w v l) (hll : l.length ≤ 9223372036854775807) (tenant : Int) (who : ByteArray) (es : ByteArray) (ea : Option Addr) (en ec : Nat)
    (hm : ∀ r ∈ l, ∀ wx, Mod (fun _ => False) w wx → Calls Try.prog 53 #[.agg #[.string r.sc, r.cv], .agg #[.string es, .slice ea en ec]] wx fun e w' => e = .returned (.bool (m r)) ∧ Mod (fun _ => False) wx w') :
    Calls Try.prog 31 #[v, .int .i64 tenant, .string who, .agg #[.string es, .slice ea en ec]] w fun e w' =>
      e = .returned (.bool ((homeOf l tenant who).isSome && l.any fun r => r.of 1 tenant who && m r)) ∧ Mod (fun _ => False) w w' := by
  obtain ⟨a, cap, rfl, hcap⟩ : ∃ a c, v = .slice a l.length c ∧ l.length ≤ c := by obtain ⟨-, a, c, h, h2, -⟩ := hv.rd; exact ⟨a, c, h, h2⟩
  have hll' : (l.length : Int) ≤ 9223372036854775807 := by omega
  have hcap' : (l.length : Int) ≤ cap := by omega
  obtain ⟨wa, hwa⟩ : ∃ wa : World, w.alloc (.cells #[.string es, .slice ea en ec] 40) = wa := ⟨_, rfl⟩
  have hmwa : Mod (fun _ => False) w wa := hwa ▸ (Mod.refl (fun _ => False) w).alloc _
  have hgwa := heap_alloc_new w (.cells #[.string es, .slice ea en ec] 40)
  rw [hwa] at hgwa
  have hzwa : wa.heap.size = w.heap.size + 1 := by rw [← hwa]; simp
  have hva := hv.mod hmwa
  have hho := home_at wa (.slice a l.length cap) l hva hll tenant who
  have hqz : w.heap.size < wa.heap.size := by omega
  obtain ⟨R, hR⟩ : ∃ R, ((homeOf l tenant who).isSome && l.any fun r => r.of 1 tenant who && m r) = R := ⟨_, rfl⟩
  rw [hR]
  have Hv := Lib.hid hv
  have Hm := Lib.hid hm
  have Hwa := Lib.hid hwa
  have Hmwa := Lib.hid hmwa
  have Hgwa := Lib.hid hgwa
  have Hva := Lib.hid hva
  have Hho := Lib.hid hho
  have HR := Lib.hid hR
  clear hv hm hwa hmwa hgwa hva hho hR hzwa hll
  go_enter Try.func31, Try.ntmps31
  go_wp2_with (first | (rw [show w.alloc _ = wa from Hwa.out]) | fail)
  refine Hho.out.mono ?_
  rintro e w1 ⟨rfl, hm1⟩
  have hm01 := Hmwa.out.trans hm1 (fun _ _ h => h)
  have hg1 := hm1.heap Hgwa.out (fun h => h)
  have Hm01 := Lib.hid hm01
  have Hg1 := Lib.hid hg1
  clear hm01 hg1 hm1 Hho
  cases hh : homeOf l tenant who with
  | none =>
    have Hh := Lib.hid hh
    clear hh
    go_wp2
    go_ret
    refine ⟨?_, Hm01.out⟩
    rw [← HR.out, Hh.out]
    rfl
  | some h0 =>
  have hR2 : (l.any fun r => r.of 1 tenant who && m r) = R := by rw [← HR.out, hh]; rfl
  have HR2 := Lib.hid hR2
  clear hR2 hh HR
  go_wp2_with fail
  go_loopw [24] (fun i wr => ∃ j : Nat, i = .int .i64 j ∧ j ≤ l.length ∧ Mod (fun _ => False) w1 wr ∧ (∀ (k : Nat) (x : Ru), k < j → l[k]? = some x → (x.of 1 tenant who && m x) = false)) (fun i _ => l.length - (intOf i).toNat)
  case atStart => exact ⟨0, rfl, Nat.zero_le _, Mod.refl _ _, fun k x hk => by omega⟩
  case round =>
    obtain ⟨j, rfl, hj, hmr, hall⟩ := hrel
    by_cases hlt : j < l.length
    · have hlt' : (j : Int) < l.length := by omega
      obtain ⟨x, hxj⟩ : ∃ x, l[j]? = some x := ⟨_, List.getElem?_eq_getElem hlt⟩
      have hxm := List.mem_of_getElem? hxj
      have hm0r := Hm01.out.trans hmr (fun _ _ h => h)
      obtain ⟨g, off, rfl, hf⟩ : ∃ g off, a = some ⟨g, off, none⟩ ∧ CellsAt wr g (off + j * 8) x.cells := rd_rule (Hv.out.mod hm0r) hxj
      obtain ⟨wz, hwz⟩ : ∃ wz : World, wr.alloc (.cells x.cells.toArray 35) = wz := ⟨_, rfl⟩
      have hmwz : Mod (fun _ => False) wr wz := hwz ▸ (Mod.refl (fun _ => False) wr).alloc _
      have hgwz := heap_alloc_new wr (.cells x.cells.toArray 35)
      rw [hwz] at hgwz
      have hzwz : wz.heap.size = wr.heap.size + 1 := by rw [← hwz]; simp
      have hm0z := hm0r.trans hmwz (fun _ _ h => h)
      have hof := of_at x 1 tenant who wz
      have hlz : wr.heap.size < wz.heap.size := by omega
      have Hmr := Lib.hid hmr
      have Hall := Lib.hid hall
      have Hxj := Lib.hid hxj
      have Hxm := Lib.hid hxm
      have Hm0r := Lib.hid hm0r
      have Hf := Lib.hid hf
      have Hwz := Lib.hid hwz
      have Hmwz := Lib.hid hmwz
      have Hgwz := Lib.hid hgwz
      have Hm0z := Lib.hid hm0z
      have Hof := Lib.hid hof
      clear hmr hall hxj hxm hm0r hf hwz hmwz hgwz hm0z hof hzwz
      go_wp2_with (first | ((with_reducible refine wpList_load_lit 35 (.tmp 26) ?_); refine ⟨g, off + j * 8, rfl, x.cells, Hf.out, by kernel_rfl, by kernel_rfl, ?_⟩) | ((with_reducible refine wpList_store_lit 35 (.tmp 12) (.tmp 27) ?_); refine ⟨rfl, x.cells, rfl, rfl, by kernel_rfl, rfl, ?_⟩; rw [Hwz.out]) | ((with_reducible refine wpList_load_lit 35 (.tmp 12) ?_); refine ⟨wr.heap.size, 0, rfl, x.cells, CellsAt.row Hgwz.out, by kernel_rfl, by kernel_rfl, ?_⟩) | fail)
      refine Hof.out.mono ?_
      rintro e w3 ⟨rfl, hm3⟩
      have hm03 := Hm0z.out.trans hm3 (fun _ _ h => h)
      have hm13 := (Hmr.out.trans Hmwz.out (fun _ _ h => h)).trans hm3 (fun _ _ h => h)
      have hg3 := hm3.heap Hgwz.out (fun h => h)
      have he3 := hm13.heap Hg1.out (fun h => h)
      have b4 : w3.cell? ⟨wr.heap.size, 4, none⟩ = some (.string x.sc) := cell_of hg3 rfl
      have b5 : w3.cell? ⟨wr.heap.size, 5, none⟩ = some (.slice x.ca x.cs.length x.cc) := cell_of hg3 rfl
      have e0 : w3.cell? ⟨w.heap.size, 0, none⟩ = some (.string es) := cell_of he3 rfl
      have e1 : w3.cell? ⟨w.heap.size, 1, none⟩ = some (.slice ea en ec) := cell_of he3 rfl
      have hmt := Hm.out x Hxm.out w3 hm03
      have Hm03 := Lib.hid hm03
      have Hm13 := Lib.hid hm13
      have Hmt := Lib.hid hmt
      clear hm03 hm13 hmt hm3 hg3 he3
      cases hs : x.of 1 tenant who with
      | false =>
        have Hs := Lib.hid hs
        clear hs
        go_wp2_with fail
        go_roundw
        case rel =>
          refine ⟨j + 1, by go_num, hlt, Hm13.out, fun k x' hk hx' => ?_⟩
          rcases Nat.lt_succ_iff_lt_or_eq.1 hk with hk | rfl
          · exact Hall.out k x' hk hx'
          · rw [Hxj.out] at hx'; cases hx'; rw [Hs.out]; rfl
        case measure => simp [intOf]; omega
      | true =>
        have Hs := Lib.hid hs
        clear hs
        go_wp2_with fail
        refine Hmt.out.mono ?_
        rintro e w4 ⟨rfl, hm4⟩
        have hm04 := Hm03.out.trans hm4 (fun _ _ h => h)
        have hm14 := Hm13.out.trans hm4 (fun _ _ h => h)
        have Hm04 := Lib.hid hm04
        have Hm14 := Lib.hid hm14
        clear hm04 hm14 hm4 b4 b5 e0 e1
        cases ht : m x with
        | false =>
          have Ht := Lib.hid ht
          clear ht
          go_wp2_with fail
          go_roundw
          case rel =>
            refine ⟨j + 1, by go_num, hlt, Hm14.out, fun k x' hk hx' => ?_⟩
            rcases Nat.lt_succ_iff_lt_or_eq.1 hk with hk | rfl
            · exact Hall.out k x' hk hx'
            · rw [Hxj.out] at hx'; cases hx'; rw [Hs.out, Ht.out]; rfl
          case measure => simp [intOf]; omega
        | true =>
          have Ht := Lib.hid ht
          clear ht
          go_wp2
          go_ret
          refine ⟨?_, Hm04.out⟩
          rw [← HR2.out, List.any_eq_true.2 ⟨x, Hxm.out, by rw [Hs.out, Ht.out]; rfl⟩]
          rfl
    · obtain rfl : j = l.length := by omega
      have hm0r := Hm01.out.trans hmr (fun _ _ h => h)
      have hf : R = false := by
        rw [← HR2.out, List.any_eq_false.2 fun x hx => by
          obtain ⟨k, hk⟩ := List.mem_iff_getElem?.1 hx
          rw [hall k x (List.getElem?_eq_some_iff.1 hk).1 hk]
          decide]
      have Hm0r := Lib.hid hm0r
      have Hf := Lib.hid hf
      clear hm0r hf hmr hall
      go_wp2
      go_ret
      refine ⟨?_, Hm0r.out⟩
      rw [Hf.out]
      rfl
end Go.Proofs.Ytpfnemkfbelpcaa
