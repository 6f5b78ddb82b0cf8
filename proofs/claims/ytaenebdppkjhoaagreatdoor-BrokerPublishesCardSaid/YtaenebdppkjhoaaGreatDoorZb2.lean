/- Lemmas of this claim. -/
import Derived.Test.YtaenebdppkjhoaaGreatDoorZa1
import Derived.Test.YtaenebdppkjhoaaGreatDoorZa10
import Derived.Test.YtaenebdppkjhoaaGreatDoorZa11
import Derived.Test.YtaenebdppkjhoaaGreatDoorZa12
import Derived.Test.YtaenebdppkjhoaaGreatDoorZa13
import Derived.Test.YtaenebdppkjhoaaGreatDoorZa14
import Derived.Test.YtaenebdppkjhoaaGreatDoorZa15
import Derived.Test.YtaenebdppkjhoaaGreatDoorZa16
import Derived.Test.YtaenebdppkjhoaaGreatDoorZa17
import Derived.Test.YtaenebdppkjhoaaGreatDoorZa18
import Derived.Test.YtaenebdppkjhoaaGreatDoorZa19
import Derived.Test.YtaenebdppkjhoaaGreatDoorZa2
import Derived.Test.YtaenebdppkjhoaaGreatDoorZa20
import Derived.Test.YtaenebdppkjhoaaGreatDoorZa21
import Derived.Test.YtaenebdppkjhoaaGreatDoorZa22
import Derived.Test.YtaenebdppkjhoaaGreatDoorZa23
import Derived.Test.YtaenebdppkjhoaaGreatDoorZa24
import Derived.Test.YtaenebdppkjhoaaGreatDoorZa25
import Derived.Test.YtaenebdppkjhoaaGreatDoorZa26
import Derived.Test.YtaenebdppkjhoaaGreatDoorZa27
import Derived.Test.YtaenebdppkjhoaaGreatDoorZa28
import Derived.Test.YtaenebdppkjhoaaGreatDoorZa29
import Derived.Test.YtaenebdppkjhoaaGreatDoorZa3
import Derived.Test.YtaenebdppkjhoaaGreatDoorZa30
import Derived.Test.YtaenebdppkjhoaaGreatDoorZa31
import Derived.Test.YtaenebdppkjhoaaGreatDoorZa32
import Derived.Test.YtaenebdppkjhoaaGreatDoorZa33
import Derived.Test.YtaenebdppkjhoaaGreatDoorZa34
import Derived.Test.YtaenebdppkjhoaaGreatDoorZa35
import Derived.Test.YtaenebdppkjhoaaGreatDoorZa36
import Derived.Test.YtaenebdppkjhoaaGreatDoorZa37
import Derived.Test.YtaenebdppkjhoaaGreatDoorZa38
import Derived.Test.YtaenebdppkjhoaaGreatDoorZa39
import Derived.Test.YtaenebdppkjhoaaGreatDoorZa4
import Derived.Test.YtaenebdppkjhoaaGreatDoorZa40
import Derived.Test.YtaenebdppkjhoaaGreatDoorZa41
import Derived.Test.YtaenebdppkjhoaaGreatDoorZa42
import Derived.Test.YtaenebdppkjhoaaGreatDoorZa43
import Derived.Test.YtaenebdppkjhoaaGreatDoorZa44
import Derived.Test.YtaenebdppkjhoaaGreatDoorZa45
import Derived.Test.YtaenebdppkjhoaaGreatDoorZa46
import Derived.Test.YtaenebdppkjhoaaGreatDoorZa47
import Derived.Test.YtaenebdppkjhoaaGreatDoorZa5
import Derived.Test.YtaenebdppkjhoaaGreatDoorZa6
import Derived.Test.YtaenebdppkjhoaaGreatDoorZa7
import Derived.Test.YtaenebdppkjhoaaGreatDoorZa8
import Derived.Test.YtaenebdppkjhoaaGreatDoorZa9
import Derived.Test.YtaenebdppkjhoaaGreatDoorZb1
import Derived.Shelf.Small.Utf8
import Derived.Shelf.Small.Bits
import Derived.Shelf.Small.Strs
import Derived.Shelf.Small.Wraps
import Derived.Shelf.Utf8.AppendRune
import Derived.Shelf.Strconv.Bsearch
import Derived.Shelf.Strconv.IsPrint
import Derived.Shelf.Strconv.IsPrint16
import Derived.Shelf.Strconv.IsPrint32
import Derived.Shelf.Strconv.Escaped
import Derived.Shelf.Strconv.Quoted
import Derived.Shelf.Strconv.Quote
import Derived.Shelf.Strconv.Itoa0
import Derived.Shelf.Strconv.Itoa1
import Derived.Shelf.LaysM
import Derived.Shelf.Strconv.Itoa2
import Derived.Shelf.Strconv.Itoa3
import Derived.Shelf.Strconv.Itoa4
import Derived.Shelf.Strings.Search1
import Derived.Shelf.Strings.Search2
import Derived.Shelf.Strings.Cut
import Derived.Shelf.Strings.Shaped
import Derived.Shelf.Sort.Plain
import Derived.Shelf.Strings.Prefix
import Derived.Shelf.Unicode.Decode
import Derived.Shelf.Strings.Runes
import Derived.Shelf.Strings.IndexAny
import Derived.Shelf.Strings.AsciiSet
import Derived.Shelf.Strings.IndexAnyAll
import Derived.Shelf.Bits.Mul64
import Derived.Shelf.Unicode.DecodeSlow
import Derived.Shelf.Unicode.DecodeAny
import Derived.Shelf.Slices.Turned
import Derived.Ground.Names2Prog
import Derived.Shelf.Slices.Clone
import Derived.Shelf.Slices.CompactS
import Derived.Shelf.Slices.SearchI
import Derived.Shelf.Slices.Cells
import Derived.Shelf.Slices.In.SortNone
import Derived.Ground.SlgnProg
import Derived.Shelf.SlicesE.Clone
import Derived.Test.YtaenebdppkjhoaaGreatDoorProg
import Derived.Lib.ItoaNum
import Derived.Lib.QuoteLoop
import Derived.Lib.PrintData
import Derived.Test.YtaenebdppkjhoaaGreatDoorChecked
import Derived.Maps.OwnSet
import Derived.Maps.Own
import Derived.Carry
namespace Go.Proofs.YtaenebdppkjhoaaGreatDoor
set_option maxRecDepth 20000
open Go.RowKit
theorem rd_att {w : World} {a : Option Addr} {cap : Nat} {l : List Att} {j : Nat} {x : Att} (h : RdSl w 6 (.slice a l.length cap) l.length (atts l)) (hx : l[j]? = some x) : ∃ g off, a = some ⟨g, off, none⟩ ∧ CellsAt w g (off + j * 6) x.cells := by
 obtain ⟨-, a', c', h1, -, h3, h4⟩ := h
 cases h1
 cases a with
 | none => have := (List.getElem?_eq_some_iff.1 hx).1; exact absurd (h3 rfl) (by omega)
 | some b =>
  obtain ⟨g', off', h5, h6⟩ := h4 _ rfl (by have := (List.getElem?_eq_some_iff.1 hx).1; omega)
  refine ⟨g', off', by rw [h5], fun i u hu => ?_⟩
  have := h6 (6 * j + i) u (atts_at _ hx hu)
  rw [show off' + j * 6 + i = off' + (6 * j + i) by omega]
  exact this
def getV (l : List Att) (s : ByteArray) : V × Bool := if there l s = true then (((l[pos l s]?).map Att.v).getD V.zero, true) else (V.zero, false)
set_option maxHeartbeats 2000000 in
theorem get_at (w : World) (sc : ByteArray) (av : Value) (l : List Att) (hv : RdSl w 6 av l.length (atts l)) (hll : l.length ≤ 1000000) (hr : rises l) (s : ByteArray) :
 Calls Tryz.prog 169 #[.agg #[.string sc, av], .string s] w fun e w' => e = .returned (.tuple #[.agg (getV l s).1.cells.toArray, .bool (getV l s).2]) ∧ Mod (fun _ => False) w w' := by
 obtain ⟨a, cap, rfl, hcap⟩ : ∃ a c, av = .slice a l.length c ∧ l.length ≤ c := by obtain ⟨-, a, c, h, h2, -⟩ := hv; exact ⟨a, c, h, h2⟩
 have hll' : (l.length : Int) ≤ 1000000 := by omega
 have hcap' : (l.length : Int) ≤ cap := by omega
 obtain ⟨wa, hwa⟩ : ∃ wa : World, w.alloc (.cells #[.string sc, .slice a l.length cap] 46) = wa := ⟨_, rfl⟩
 have hmwa : Mod (fun _ => False) w wa := hwa ▸ (Mod.refl (fun _ => False) w).alloc _
 have hgwa := heap_alloc_new w (.cells #[.string sc, .slice a l.length cap] 46)
 rw [hwa] at hgwa
 have hzwa : wa.heap.size = w.heap.size + 1 := by rw [← hwa]; simp
 obtain ⟨wb, hwb⟩ : ∃ wb : World, wa.alloc (.cells #[.int .i64 0, .int .i64 0, .float .f64 0, .string ⟨#[]⟩, .bool false] 68) = wb := ⟨_, rfl⟩
 have hmwb : Mod (fun _ => False) wa wb := hwb ▸ (Mod.refl (fun _ => False) wa).alloc _
 have hgwb := heap_alloc_new wa (.cells #[.int .i64 0, .int .i64 0, .float .f64 0, .string ⟨#[]⟩, .bool false] 68)
 rw [hwb] at hgwb
 have hzwb : wb.heap.size = wa.heap.size + 1 := by rw [← hwb]; simp
 have hmb := hmwa.trans hmwb (fun _ _ h => h)
 have hg := hmwb.heap hgwa (fun h => h)
 have c0 : wb.cell? ⟨w.heap.size, 0, none⟩ = some (.string sc) := cell_of hg rfl
 have c1 : wb.cell? ⟨w.heap.size, 1, none⟩ = some (.slice a l.length cap) := cell_of hg rfl
 have hvb := hv.mod hmb (fun _ _ h => h)
 have hfd := find_at wb sc (.slice a l.length cap) l hvb hll hr s
 obtain ⟨R, hR⟩ : ∃ R, getV l s = R := ⟨_, rfl⟩
 rw [hR]
 unfold getV at hR
 have hlz : w.heap.size < wa.heap.size := by omega
 have Hv := Lib.hid hv
 have Hr := Lib.hid hr
 have Hwa := Lib.hid hwa
 have Hwb := Lib.hid hwb
 have Hmb := Lib.hid hmb
 have Hvb := Lib.hid hvb
 have Hg := Lib.hid hg
 have Hgwb := Lib.hid hgwb
 have Hfd := Lib.hid hfd
 have HR := Lib.hid hR
 clear hv hr hwa hwb hmb hvb hg hgwb hfd hR hgwa hmwa hmwb hzwa hzwb
 go_enter Tryz.func169, Tryz.ntmps169
 go_wp2_with (first | (rw [show w.alloc _ = wa from Hwa.out]) | (rw [show wa.alloc _ = wb from Hwb.out]) | fail)
 refine Hfd.out.mono ?_
 rintro e w1 ⟨rfl, hm1⟩
 have hm01 := Hmb.out.trans hm1 (fun _ _ h => h)
 have hg1 := hm1.heap Hg.out (fun h => h)
 have hz1 := hm1.heap Hgwb.out (fun h => h)
 have hv1 := Hvb.out.mod hm1 (fun _ _ h => h)
 have c1 : w1.cell? ⟨w.heap.size, 1, none⟩ = some (.slice a l.length cap) := cell_of hg1 rfl
 have Hm01 := Lib.hid hm01
 have Hz1 := Lib.hid hz1
 have Hv1 := Lib.hid hv1
 clear hm01 hz1 hv1 hm1 c0 hg1 Hfd
 cases hth : there l s with
 | false =>
  have E := Lib.hid (HR.out.symm.trans (if_neg (by rw [hth]; decide)))
  have Hth := Lib.hid hth
  clear hth
  go_wp2_with (first | ((with_reducible refine wpList_store_row_lit 68 (.tmp 4) (.tmp 16) ?_); refine ⟨wa.heap.size, rfl, _, _, Hz1.out, [.int .i64 0, .int .i64 0, .float .f64 0, .string ⟨#[]⟩, .bool false], rfl, rfl, by kernel_rfl, rfl, ?_⟩; intro w6 hg6 hm6; have Hg6 := Lib.hid hg6; have Hm6 := Lib.hid hm6; clear hg6 hm6) | fail)
  refine bodyPost_ret (v := .tuple #[.agg #[.int .i64 0, .int .i64 0, .float .f64 0, .string ⟨#[]⟩, .bool false], .bool false]) ?_ rfl ⟨by rw [E.out]; rfl, Hm01.out.upon Hm6.out (fun b hb => .inr (by omega))⟩
  have hl := run_loadVar_cells (P := Tryz.prog) 68 wa.heap.size 0 [.int .i64 0, .int .i64 0, .float .f64 0, .string ⟨#[]⟩, .bool false] (CellsAt.row Hg6.out) (by kernel_rfl) (by kernel_rfl)
  simp [results, Tryz.results169, Result.andThen, asAddr, hl]
 | true =>
  have e1 := HR.out.symm.trans (if_pos hth)
  obtain ⟨x, hx⟩ : ∃ x, l[pos l s]? = some x := by
   unfold there at hth
   split at hth
   ·exact ⟨_, by assumption⟩
   ·cases hth
  rw [hx] at e1
  have E := Lib.hid (show R = (x.v, true) from e1)
  have hp : pos l s < l.length := (List.getElem?_eq_some_iff.1 hx).1
  obtain ⟨p, hpp⟩ : ∃ p, pos l s = p := ⟨_, rfl⟩
  rw [hpp] at hx hp ⊢
  have hp' : (p : Int) < l.length := by omega
  obtain ⟨g, off, rfl, hf⟩ : ∃ g off, a = some ⟨g, off, none⟩ ∧ CellsAt w1 g (off + p * 6) x.cells := rd_att Hv1.out hx
  have hf1 : CellsAt w1 g (off + p * 6 + 1) x.v.cells := fun j u hu => by
   have := hf (j + 1) u (by simpa [Att.cells] using hu)
   rw [show off + p * 6 + 1 + j = off + p * 6 + (j + 1) by omega]
   exact this
  have Hth := Lib.hid hth
  have Hf1 := Lib.hid hf1
  clear hf1 hth hpp hf hx e1
  go_wp2_with (first | ((with_reducible refine wpList_load_lit 68 (.tmp 21) ?_); refine ⟨g, off + p * 6 + 1, rfl, x.v.cells, Hf1.out, by kernel_rfl, by kernel_rfl, ?_⟩) | ((with_reducible refine wpList_store_row_lit 68 (.tmp 4) (.tmp 22) ?_); refine ⟨wa.heap.size, rfl, _, _, Hz1.out, x.v.cells, rfl, rfl, by kernel_rfl, rfl, ?_⟩; intro w6 hg6 hm6; have Hg6 := Lib.hid hg6; have Hm6 := Lib.hid hm6; clear hg6 hm6) | fail)
  refine bodyPost_ret (v := .tuple #[.agg x.v.cells.toArray, .bool true]) ?_ rfl ⟨by rw [E.out], Hm01.out.upon Hm6.out (fun b hb => .inr (by omega))⟩
  have hl := run_loadVar_cells (P := Tryz.prog) 68 wa.heap.size 0 x.v.cells (CellsAt.row Hg6.out) (by kernel_rfl) (by kernel_rfl)
  simp [results, Tryz.results169, Result.andThen, asAddr, hl]
theorem getV_text {l : List Att} {s : ByteArray} {n : Nat} (h : ∀ a ∈ l, a.v.text.size ≤ n) : (getV l s).1.text.size ≤ n := by
 unfold getV
 split
 ·cases hx : l[pos l s]? with
  | none => exact Nat.zero_le _
  | some x => exact h x (List.mem_of_getElem? hx)
 ·exact Nat.zero_le _
def Cnd.matchB (c : Cnd) (l : List Att) : Bool := (getV l c.name).2 && c.holds (getV l c.name).1
set_option maxHeartbeats 2000000 in
theorem cond_match (c : Cnd) (hc : c.v.text.size ≤ 9223372036854775807) (w : World) (sc : ByteArray) (av : Value) (l : List Att) (hv : RdSl w 6 av l.length (atts l)) (hll : l.length ≤ 1000000) (hr : rises l) (ht : ∀ a ∈ l, a.v.text.size ≤ 9223372036854775807) :
 Calls Tryz.prog 120 #[.agg c.cells.toArray, .agg #[.string sc, av]] w fun e w' => e = .returned (.bool (c.matchB l)) ∧ Mod (fun _ => False) w w' := by
 obtain ⟨a, cap, rfl, hcap⟩ : ∃ a c, av = .slice a l.length c ∧ l.length ≤ c := by obtain ⟨-, a, c, h, h2, -⟩ := hv; exact ⟨a, c, h, h2⟩
 obtain ⟨wa, hwa⟩ : ∃ wa : World, w.alloc (.cells c.cells.toArray 132) = wa := ⟨_, rfl⟩
 have hmwa : Mod (fun _ => False) w wa := hwa ▸ (Mod.refl (fun _ => False) w).alloc _
 have hgwa := heap_alloc_new w (.cells c.cells.toArray 132)
 rw [hwa] at hgwa
 have hzwa : wa.heap.size = w.heap.size + 1 := by rw [← hwa]; simp
 obtain ⟨wb, hwb⟩ : ∃ wb : World, wa.alloc (.cells #[.string sc, .slice a l.length cap] 46) = wb := ⟨_, rfl⟩
 have hmwb : Mod (fun _ => False) wa wb := hwb ▸ (Mod.refl (fun _ => False) wa).alloc _
 have hgwb := heap_alloc_new wa (.cells #[.string sc, .slice a l.length cap] 46)
 rw [hwb] at hgwb
 have hzwb : wb.heap.size = wa.heap.size + 1 := by rw [← hwb]; simp
 have hmb := hmwa.trans hmwb (fun _ _ h => h)
 have hg := hmwb.heap hgwa (fun h => h)
 have c0 : wb.cell? ⟨w.heap.size, 0, none⟩ = some (.string c.name) := cell_of hg rfl
 have d0 : wb.cell? ⟨wa.heap.size, 0, none⟩ = some (.string sc) := cell_of hgwb rfl
 have d1 : wb.cell? ⟨wa.heap.size, 1, none⟩ = some (.slice a l.length cap) := cell_of hgwb rfl
 have hge := get_at wb sc (.slice a l.length cap) l (hv.mod hmb (fun _ _ h => h)) hll hr c.name
 have hgt := getV_text (s := c.name) ht
 obtain ⟨R, hR⟩ : ∃ R, c.matchB l = R := ⟨_, rfl⟩
 rw [hR]
 unfold Cnd.matchB at hR
 obtain ⟨⟨v, b⟩, hvb⟩ : ∃ p, getV l c.name = p := ⟨_, rfl⟩
 rw [hvb] at hge hgt hR
 simp only at hge hgt hR
 have hho := holds_at c v hc hgt
 have hlz : w.heap.size < wa.heap.size := by omega
 have Hv := Lib.hid hv
 have Hr := Lib.hid hr
 have Hwa := Lib.hid hwa
 have Hwb := Lib.hid hwb
 have Hmb := Lib.hid hmb
 have Hg := Lib.hid hg
 have Hge := Lib.hid hge
 have Hgt := Lib.hid hgt
 have HR := Lib.hid hR
 have Hvb := Lib.hid hvb
 have Hho := Lib.hid hho
 clear hv hr hwa hwb hmb hg hge hgt hR hvb hho hgwa hgwb hmwa hmwb hzwa hzwb hc ht hll
 go_enter Tryz.func120, Tryz.ntmps120
 go_wp2_with (first | (rw [show w.alloc _ = wa from Hwa.out]) | (rw [show wa.alloc _ = wb from Hwb.out]) | fail)
 refine Hge.out.mono ?_
 rintro e w1 ⟨rfl, hm1⟩
 obtain ⟨wz, hwz⟩ : ∃ wz : World, w1.alloc (.cells v.cells.toArray 68) = wz := ⟨_, rfl⟩
 have hmwz : Mod (fun _ => False) w1 wz := hwz ▸ (Mod.refl (fun _ => False) w1).alloc _
 have hgwz := heap_alloc_new w1 (.cells v.cells.toArray 68)
 rw [hwz] at hgwz
 have hzwz : wz.heap.size = w1.heap.size + 1 := by rw [← hwz]; simp
 have hm0z := (Hmb.out.trans hm1 (fun _ _ h => h)).trans hmwz (fun _ _ h => h)
 have hgz := hmwz.heap (hm1.heap Hg.out (fun h => h)) (fun h => h)
 have hhz := Hho.out wz
 have Hwz := Lib.hid hwz
 have Hgwz := Lib.hid hgwz
 have Hm0z := Lib.hid hm0z
 have Hgz := Lib.hid hgz
 have Hhz := Lib.hid hhz
 clear hwz hgwz hm0z hgz hhz hmwz hzwz hm1 c0 d0 d1 Hge Hg Hho
 cases b with
 | false =>
  go_wp2_with (first | ((with_reducible refine wpList_store_lit 68 (.tmp 5) (.tmp 12) ?_); refine ⟨rfl, v.cells, rfl, rfl, by kernel_rfl, rfl, ?_⟩; rw [Hwz.out]) | fail)
  go_ret
  exact ⟨by rw [← HR.out]; rfl, Hm0z.out⟩
 | true =>
  have c0 : wz.cell? ⟨w.heap.size, 0, none⟩ = some (.string c.name) := cell_of Hgz.out rfl
  have c1 : wz.cell? ⟨w.heap.size, 1, none⟩ = some (.int .i64 c.op) := cell_of Hgz.out rfl
  have c2 : wz.cell? ⟨w.heap.size, 2, none⟩ = some (.int .i64 c.v.kind) := cell_of Hgz.out rfl
  have c3 : wz.cell? ⟨w.heap.size, 3, none⟩ = some (.int .i64 c.v.int) := cell_of Hgz.out rfl
  have c4 : wz.cell? ⟨w.heap.size, 4, none⟩ = some (.float .f64 c.v.num) := cell_of Hgz.out rfl
  have c5 : wz.cell? ⟨w.heap.size, 5, none⟩ = some (.string c.v.text) := cell_of Hgz.out rfl
  have c6 : wz.cell? ⟨w.heap.size, 6, none⟩ = some (.bool c.v.yes) := cell_of Hgz.out rfl
  have z0 : wz.cell? ⟨w1.heap.size, 0, none⟩ = some (.int .i64 v.kind) := cell_of Hgwz.out rfl
  have z1 : wz.cell? ⟨w1.heap.size, 1, none⟩ = some (.int .i64 v.int) := cell_of Hgwz.out rfl
  have z2 : wz.cell? ⟨w1.heap.size, 2, none⟩ = some (.float .f64 v.num) := cell_of Hgwz.out rfl
  have z3 : wz.cell? ⟨w1.heap.size, 3, none⟩ = some (.string v.text) := cell_of Hgwz.out rfl
  have z4 : wz.cell? ⟨w1.heap.size, 4, none⟩ = some (.bool v.yes) := cell_of Hgwz.out rfl
  go_wp2_with (first | ((with_reducible refine wpList_store_lit 68 (.tmp 5) (.tmp 12) ?_); refine ⟨rfl, v.cells, rfl, rfl, by kernel_rfl, rfl, ?_⟩; rw [Hwz.out]) | fail)
  refine Hhz.out.mono ?_
  rintro e w2 ⟨rfl, hm2⟩
  have Hm2 := Lib.hid (Hm0z.out.trans hm2 (fun _ _ h => h))
  clear hm2
  go_wp2
  go_ret
  exact ⟨by rw [← HR.out]; rfl, Hm2.out⟩
def filMatch (sc : ByteArray) (cs : List Cnd) (es : ByteArray) (l : List Att) : Bool := cs.all (fun c => c.matchB l) && underB es sc
theorem filter_match (w : World) (sc : ByteArray) (cv : Value) (cs : List Cnd) (hc : RdSl w 7 cv cs.length (cnds cs)) (hcl : cs.length ≤ 9223372036854775807) (hsc : sc.size ≤ 9223372036854775807) (hct : ∀ c ∈ cs, c.v.text.size ≤ 9223372036854775807)
 (es : ByteArray) (av : Value) (l : List Att) (hv : RdSl w 6 av l.length (atts l)) (hll : l.length ≤ 1000000) (hr : rises l) (hes : es.size ≤ 9223372036854775807) (ht : ∀ a ∈ l, a.v.text.size ≤ 9223372036854775807) :
 Calls Tryz.prog 91 #[.agg #[.string sc, cv], .agg #[.string es, av]] w fun e w' => e = .returned (.bool (filMatch sc cs es l)) ∧ Mod (fun _ => False) w w' := by
 obtain ⟨a, cap, rfl⟩ : ∃ a c, av = .slice a l.length c := by obtain ⟨-, a, c, h, -⟩ := hv; exact ⟨a, c, h⟩
 exact match_over (fun c => c.matchB l) w sc cv cs es (.slice a l.length cap) a l.length cap rfl hc hcl hsc hes (fun c hm wx hwx => cond_match c (hct c hm) wx es _ l (hv.mod hwx (fun _ _ h => h)) hll hr ht)
end Go.Proofs.YtaenebdppkjhoaaGreatDoor
namespace Go.Proofs.YtaenebdppkjhoaaGreatDoor
set_option maxRecDepth 20000
open Go.RowKit
set_option maxHeartbeats 1000000 in
theorem runder_at (s top : ByteArray) (hs : s.size ≤ 9223372036854775807) (hp : top.size ≤ 9223372036854775807) (w : World) : Calls Tryz.prog 68 #[.string s, .string top] w fun e w' => e = .returned (.bool (underB s top)) ∧ w' = w := by
 have hs' : (s.size : Int) ≤ 9223372036854775807 := by omega
 have hp' : (top.size : Int) ≤ 9223372036854775807 := by omega
 cases h1 : top.toList.isEmpty with
 | true =>
  rw [show underB s top = true by unfold underB; rw [h1]; rfl]
  clear hs hp
  go_enter Tryz.func68, Tryz.ntmps68
  go_wp2
  go_ret
  exact ⟨rfl, rfl⟩
 | false =>
 cases h2 : s.toList == top.toList with
 | true =>
  rw [show underB s top = true by unfold underB; rw [h1, h2]; rfl]
  clear hs hp
  go_enter Tryz.func68, Tryz.ntmps68
  go_wp2
  go_ret
  exact ⟨rfl, rfl⟩
 | false =>
 have hu : underB s top = (prefB s top && s.data.toList[top.size]? == some 47) := by unfold underB; rw [h1, h2]; rfl
 rw [hu]
 by_cases hlt : top.size < s.size
 ·have hlt' : (top.size : Int) < s.size := by omega
  have hle' : (top.size : Int) ≤ s.size := by omega
  have hg : s.data.toList[top.size]? = some s[top.size] := List.getElem?_eq_getElem hlt
  have hb : (s.data.toList[top.size]? == some 47) = ((s[top.size].toNat : Int) == 47) := by
   rw [hg, Bool.eq_iff_iff, beq_iff_eq, beq_iff_eq]
   constructor
   ·intro h
    have h := Option.some.inj h
    rw [h]
    rfl
   ·intro h
    congr 1
    exact UInt8.toNat.inj (by have : (47 : UInt8).toNat = 47 := rfl; omega)
  have hpt := prefix_take (s := s) (p := top)
  rw [hb, ← hpt]
  obtain ⟨T, hT⟩ : ∃ T, ((s.extract 0 top.size).toList == top.toList) = T := ⟨_, rfl⟩
  rw [hT]
  clear hs hp hu hg hb hpt
  cases T with
  | false =>
   rw [Bool.false_and]
   go_enter Tryz.func68, Tryz.ntmps68
   go_wp2
   go_ret
   exact ⟨rfl, rfl⟩
  | true =>
   rw [Bool.true_and]
   go_enter Tryz.func68, Tryz.ntmps68
   go_wp2
   go_ret
   exact ⟨rfl, rfl⟩
 ·have hlt' : (s.size : Int) ≤ top.size := by omega
  have hd : decide (top.size < s.size) = false := decide_eq_false hlt
  have hg : s.data.toList[top.size]? = none := List.getElem?_eq_none (by show s.size ≤ _; omega)
  rw [hg, show ((none : Option UInt8) == some 47) = false from rfl, Bool.and_false]
  clear hs hp hu hg hlt
  go_enter Tryz.func68, Tryz.ntmps68
  go_wp2
  go_ret
  exact ⟨rfl, rfl⟩
def rMatchC (c : Cnd) (l : List Att) : Bool := l.any fun a => a.name.toList == c.name.toList && c.holds a.v
attribute [local go_sem ↓] run_load_cnd
set_option maxRecDepth 20000 in
set_option maxHeartbeats 4000000 in
theorem rmatch_at (w : World) (sc : ByteArray) (cv : Value) (cs : List Cnd) (hc : RdSl w 7 cv cs.length (cnds cs)) (hcl : cs.length ≤ 9223372036854775807) (hsc : sc.size ≤ 9223372036854775807) (hct : ∀ c ∈ cs, c.v.text.size ≤ 9223372036854775807)
 (es : ByteArray) (av : Value) (l : List Att) (hv : RdSl w 6 av l.length (atts l)) (hll : l.length ≤ 1000000) (hes : es.size ≤ 9223372036854775807) (ht : ∀ a ∈ l, a.v.text.size ≤ 9223372036854775807) :
 Calls Tryz.prog 41 #[.agg #[.string sc, cv], .agg #[.string es, av]] w fun e w' => e = .returned (.bool (underB es sc && cs.all fun c => rMatchC c l)) ∧ Mod (fun _ => False) w w' := by
 obtain ⟨a, cap, rfl, hcap⟩ : ∃ a c, cv = .slice a cs.length c ∧ cs.length ≤ c := by obtain ⟨-, a, c, h, h2, -⟩ := hc; exact ⟨a, c, h, h2⟩
 obtain ⟨b, bcap, rfl, hbcap⟩ : ∃ a c, av = .slice a l.length c ∧ l.length ≤ c := by obtain ⟨-, a, c, h, h2, -⟩ := hv; exact ⟨a, c, h, h2⟩
 have hcl' : (cs.length : Int) ≤ 9223372036854775807 := by omega
 have hll' : (l.length : Int) ≤ 1000000 := by omega
 obtain ⟨wa, hwa⟩ : ∃ wa : World, w.alloc (.cells #[.string sc, .slice a cs.length cap] 33) = wa := ⟨_, rfl⟩
 have hmwa : Mod (fun _ => False) w wa := hwa ▸ (Mod.refl (fun _ => False) w).alloc _
 have hgwa := heap_alloc_new w (.cells #[.string sc, .slice a cs.length cap] 33)
 rw [hwa] at hgwa
 have hzwa : wa.heap.size = w.heap.size + 1 := by rw [← hwa]; simp
 obtain ⟨wb, hwb⟩ : ∃ wb : World, wa.alloc (.cells #[.string es, .slice b l.length bcap] 46) = wb := ⟨_, rfl⟩
 have hmwb : Mod (fun _ => False) wa wb := hwb ▸ (Mod.refl (fun _ => False) wa).alloc _
 have hgwb := heap_alloc_new wa (.cells #[.string es, .slice b l.length bcap] 46)
 rw [hwb] at hgwb
 have hzwb : wb.heap.size = wa.heap.size + 1 := by rw [← hwb]; simp
 have hmb := hmwa.trans hmwb (fun _ _ h => h)
 have hF := hmwb.heap hgwa (fun h => h)
 have f0 : wb.cell? ⟨w.heap.size, 0, none⟩ = some (.string sc) := cell_of hF rfl
 have f1 : wb.cell? ⟨w.heap.size, 1, none⟩ = some (.slice a cs.length cap) := cell_of hF rfl
 have e0 : wb.cell? ⟨wa.heap.size, 0, none⟩ = some (.string es) := cell_of hgwb rfl
 have e1 : wb.cell? ⟨wa.heap.size, 1, none⟩ = some (.slice b l.length bcap) := cell_of hgwb rfl
 have hun := runder_at es sc hes hsc wb
 obtain ⟨R, hR⟩ : ∃ R, (underB es sc && cs.all fun c => rMatchC c l) = R := ⟨_, rfl⟩
 rw [hR]
 have hqz : w.heap.size < wa.heap.size := by omega
 have Hc := Lib.hid hc
 have Hv := Lib.hid hv
 have Hct := Lib.hid hct
 have Ht := Lib.hid ht
 have Hwa := Lib.hid hwa
 have Hwb := Lib.hid hwb
 have Hmb := Lib.hid hmb
 have HF := Lib.hid hF
 have Hgwb := Lib.hid hgwb
 have Hun := Lib.hid hun
 have HR := Lib.hid hR
 clear hc hv hct ht hwa hwb hmb hF hgwb hun hR hmwa hmwb hgwa hzwa hzwb hcl hll hsc hes
 go_enter Tryz.func41, Tryz.ntmps41
 go_wp2_with (first | (rw [show w.alloc _ = wa from Hwa.out]) | (rw [show wa.alloc _ = wb from Hwb.out]) | fail)
 refine Hun.out.mono ?_
 rintro e w1 ⟨rfl, rfl⟩
 cases hu : underB es sc with
 | false =>
  have Hu := Lib.hid hu
  clear hu
  go_wp2
  go_ret
  exact ⟨ret_bool (by rw [← HR.out, Hu.out]; rfl), Hmb.out⟩
 | true =>
 have HR := Lib.hid (show (cs.all fun c => rMatchC c l) = R by rw [← HR.out, hu]; rfl)
 clear hu Hun f0 f1 e0 e1
 go_wp2_with fail
 go_loopw [5] (fun i wr => ∃ j : Nat, i = .int .i64 j ∧ j ≤ cs.length ∧ Mod (fun _ => False) w1 wr ∧ (∀ (k : Nat) (x : Cnd), k < j → cs[k]? = some x → rMatchC x l = true)) (fun i _ => cs.length - (intOf i).toNat)
 case atStart => exact ⟨0, rfl, Nat.zero_le _, Mod.refl _ _, fun k x hk => by omega⟩
 case round =>
  obtain ⟨wo, rfl⟩ : ∃ wo : World, wo = wr := ⟨_, rfl⟩
  obtain ⟨i, rfl, hi, hmr, hall⟩ := hrel
  have hFr := hmr.heap HF.out (fun h => h)
  have f1 : wo.cell? ⟨w.heap.size, 1, none⟩ = some (.slice a cs.length cap) := cell_of hFr rfl
  by_cases hlt : i < cs.length
  ·have hlt' : (i : Int) < cs.length := by omega
   obtain ⟨c, hci⟩ : ∃ x, cs[i]? = some x := ⟨_, List.getElem?_eq_getElem hlt⟩
   have hcm := List.mem_of_getElem? hci
   have hm0r := Hmb.out.trans hmr (fun _ _ h => h)
   obtain ⟨g, off, rfl, hcc⟩ : ∃ g off, a = some ⟨g, off, none⟩ ∧ CellsAt wo g (off + i * 7) c.cells := rd_cnd (Hc.out.mod hm0r (fun _ _ h => h)) hci
   have hEr := hmr.heap Hgwb.out (fun h => h)
   have Hmr := Lib.hid hmr
   have Hall := Lib.hid hall
   have Hci := Lib.hid hci
   have Hcm := Lib.hid hcm
   have Hcc := Lib.hid hcc
   have HFr := Lib.hid hFr
   have Hm0r := Lib.hid hm0r
   have HEr := Lib.hid hEr
   clear hmr hall hci hcm hcc hFr hm0r hEr
   go_wp2_with fail
   go_loopw [6, 7] (fun ok jv wr => ∃ j : Nat, jv = .int .i64 j ∧ j ≤ l.length ∧ Mod (fun _ => False) wo wr ∧ ok = .bool (rMatchC c (l.take j))) (fun _ jv _ => l.length - (intOf jv).toNat)
   case atStart => exact ⟨0, rfl, Nat.zero_le _, Mod.refl _ _, rfl⟩
   case round =>
    obtain ⟨j, rfl, hj, hmq, rfl⟩ := hrel
    have hEq := hmq.heap HEr.out (fun h => h)
    have hFq := hmq.heap HFr.out (fun h => h)
    have e1 : wr.cell? ⟨wa.heap.size, 1, none⟩ = some (.slice b l.length bcap) := cell_of hEq rfl
    by_cases hlj : j < l.length
    ·have hlj' : (j : Int) < l.length := by omega
     obtain ⟨x, hxj⟩ : ∃ x, l[j]? = some x := ⟨_, List.getElem?_eq_getElem hlj⟩
     have hm0q := Hm0r.out.trans hmq (fun _ _ h => h)
     obtain ⟨ag, aoff, rfl, hxc⟩ : ∃ ag aoff, b = some ⟨ag, aoff, none⟩ ∧ CellsAt wr ag (aoff + j * 6) x.cells := rd_att (Hv.out.mod hm0q (fun _ _ h => h)) hxj
     have hcq := Hcc.out.mod hmq (fun h => h)
     have hh := rholds_at c x.v (Hct.out c Hcm.out) (Ht.out x (List.mem_of_getElem? hxj))
     have hstep : rMatchC c (l.take (j + 1)) = (rMatchC c (l.take j) || (x.name.toList == c.name.toList && c.holds x.v)) := by
      unfold rMatchC
      rw [List.take_add_one, List.any_append, hxj]
      simp
     have hf : ∀ w', Mod (fun _ => False) wr w' → w'.cell? ⟨wa.heap.size, 1, none⟩ = some (.slice (some ⟨ag, aoff, none⟩) l.length bcap) ∧ w'.cell? ⟨w.heap.size, 1, none⟩ = some (.slice (some ⟨g, off, none⟩) cs.length cap) ∧
      w'.cell? ⟨ag, aoff + j * 6, none⟩ = some (.string x.name) ∧ AllCells w' ag (aoff + j * 6 + 1) 5 ∧ cellsOf w' ag (aoff + j * 6 + 1) 5 = x.v.cells.toArray ∧
      w'.cell? ⟨g, off + i * 7, none⟩ = some (.string c.name) ∧ AllCells w' g (off + i * 7) 7 ∧ cellsOf w' g (off + i * 7) 7 = c.cells.toArray := fun w' hw' => by
      have hx2 := hxc.mod hw' (fun h => h)
      have hc2 := hcq.mod hw' (fun h => h)
      have hx3 : CellsAt w' ag (aoff + j * 6 + 1) x.v.cells := fun q u hu => by
       have := hx2 (q + 1) u (by simpa [Att.cells] using hu)
       rw [show aoff + j * 6 + 1 + q = aoff + j * 6 + (q + 1) by omega]
       exact this
      exact ⟨cell_of (hw'.heap hEq (fun h => h)) rfl, cell_of (hw'.heap hFq (fun h => h)) rfl, hx2 0 _ rfl, hx3.all rfl, hx3.is rfl, hc2 0 _ rfl, hc2.all rfl, hc2.is rfl⟩
     have hh2 : ∀ w', Mod (fun _ => False) wr w' → Calls Tryz.prog 77 #[.agg c.cells.toArray, .agg x.v.cells.toArray] w' fun e w'' => e = .returned (.bool (c.holds x.v)) ∧ Mod (fun _ => False) wr w'' :=
      fun w' hw' => (hh w').mono fun e w'' h => ⟨h.1, hw'.trans h.2 (fun _ _ h => h)⟩
     obtain ⟨acc, hacc⟩ : ∃ q, rMatchC c (l.take j) = q := ⟨_, rfl⟩
     obtain ⟨H, hH⟩ : ∃ q, c.holds x.v = q := ⟨_, rfl⟩
     rw [hacc, hH] at hstep
     rw [hacc]
     rw [hH] at hh2
     have Hmq := Lib.hid hmq
     have Hxj := Lib.hid hxj
     have Hxc := Lib.hid hxc
     have Hcq := Lib.hid hcq
     have Hf := Lib.hid hf
     have Hh2 := Lib.hid hh2
     have Hstep := Lib.hid hstep
     clear hmq hxj hxc hcq hf hh2 hstep hFq hEq hm0q hacc hH hh
     cases hnm : x.name.toList == c.name.toList with
     | false =>
      have Hstep := Lib.hid (show rMatchC c (l.take (j + 1)) = acc by rw [Hstep.out, hnm, Bool.false_and, Bool.or_false])
      go_wp2_with fail
      refine wp_region_news (by kernel_rfl) (by kernel_rfl) ?_
      iterate 27 (first
       | (refine quiet_skip ?_ (fun K hK => ?_)
          ·first | (go_simp; done) | (go_simp; simp [undef]; done)
          go_simp; refine hK _ ?_; clear hK K)
       | (refine quiet_do ?_ ?_ (fun w' hw' => ?_) (fun K hK => ?_)
          ·first | (go_simp; done) | (go_simp; simp [undef]; done)
          rotate_left
          ·obtain ⟨f1, f2, f3, f4, f5, f6, f7, f8⟩ := Hf.out w' hw'
           go_simp
           rfl
          go_simp; refine hK _ ?_; clear hK K)
       | (refine quiet_in ?_ ?_ ?_ ?_ (fun w' hw' => ?_) ?_ (fun K hK => ?_)
          ·first | (go_simp; done) | (go_simp; simp [undef]; done)
          rotate_left 3
          ·obtain ⟨f1, f2, f3, f4, f5, f6, f7, f8⟩ := Hf.out w' hw'
           go_simp
           constructor <;> rfl
          ·first | exact Hh2.out
          go_simp; refine hK _ ?_; clear hK K))
      refine quiet_end (fun w' hw' => ?_)
      have Hw' := Lib.hid (Hmq.out.trans hw' (fun _ _ h => h))
      clear hw' hnm
      go_wp2_with fail
      go_roundw
      case rel => exact ⟨j + 1, by go_num, hlj, Hw'.out, by rw [Hstep.out]⟩
      case measure => simp [intOf]; omega
     | true =>
      have Hstep := Lib.hid (show rMatchC c (l.take (j + 1)) = (acc || H) by rw [Hstep.out, hnm, Bool.true_and])
      cases H with
      | false =>
       have Hstep := Lib.hid (show rMatchC c (l.take (j + 1)) = acc by rw [Hstep.out, Bool.or_false])
       go_wp2_with fail
       refine wp_region_news (by kernel_rfl) (by kernel_rfl) ?_
       iterate 27 (first
        | (refine quiet_skip ?_ (fun K hK => ?_)
           ·first | (go_simp; done) | (go_simp; simp [undef]; done)
           go_simp; refine hK _ ?_; clear hK K)
        | (refine quiet_do ?_ ?_ (fun w' hw' => ?_) (fun K hK => ?_)
           ·first | (go_simp; done) | (go_simp; simp [undef]; done)
           rotate_left
           ·obtain ⟨f1, f2, f3, f4, f5, f6, f7, f8⟩ := Hf.out w' hw'
            go_simp
            rfl
           go_simp; refine hK _ ?_; clear hK K)
        | (refine quiet_in ?_ ?_ ?_ ?_ (fun w' hw' => ?_) ?_ (fun K hK => ?_)
           ·first | (go_simp; done) | (go_simp; simp [undef]; done)
           rotate_left 3
           ·obtain ⟨f1, f2, f3, f4, f5, f6, f7, f8⟩ := Hf.out w' hw'
            go_simp
            constructor <;> rfl
           ·first | exact Hh2.out
           go_simp; refine hK _ ?_; clear hK K))
       refine quiet_end (fun w' hw' => ?_)
       have Hw' := Lib.hid (Hmq.out.trans hw' (fun _ _ h => h))
       clear hw' hnm
       go_wp2_with fail
       go_roundw
       case rel => exact ⟨j + 1, by go_num, hlj, Hw'.out, by rw [Hstep.out]⟩
       case measure => simp [intOf]; omega
      | true =>
       have Hstep := Lib.hid (show rMatchC c (l.take (j + 1)) = true by rw [Hstep.out, Bool.or_true])
       go_wp2_with fail
       refine wp_region_news (by kernel_rfl) (by kernel_rfl) ?_
       iterate 27 (first
        | (refine quiet_skip ?_ (fun K hK => ?_)
           ·first | (go_simp; done) | (go_simp; simp [undef]; done)
           go_simp; refine hK _ ?_; clear hK K)
        | (refine quiet_do ?_ ?_ (fun w' hw' => ?_) (fun K hK => ?_)
           ·first | (go_simp; done) | (go_simp; simp [undef]; done)
           rotate_left
           ·obtain ⟨f1, f2, f3, f4, f5, f6, f7, f8⟩ := Hf.out w' hw'
            go_simp
            rfl
           go_simp; refine hK _ ?_; clear hK K)
        | (refine quiet_in ?_ ?_ ?_ ?_ (fun w' hw' => ?_) ?_ (fun K hK => ?_)
           ·first | (go_simp; done) | (go_simp; simp [undef]; done)
           rotate_left 3
           ·obtain ⟨f1, f2, f3, f4, f5, f6, f7, f8⟩ := Hf.out w' hw'
            go_simp
            constructor <;> rfl
           ·first | exact Hh2.out
           go_simp; refine hK _ ?_; clear hK K))
       refine quiet_end (fun w' hw' => ?_)
       have Hw' := Lib.hid (Hmq.out.trans hw' (fun _ _ h => h))
       clear hw' hnm
       go_wp2_with fail
       go_roundw
       case rel => exact ⟨j + 1, by go_num, hlj, Hw'.out, by rw [Hstep.out]⟩
       case measure => simp [intOf]; omega
    ·obtain rfl : j = l.length := by omega
     rw [List.take_length]
     have hmq1 := Hmr.out.trans hmq (fun _ _ h => h)
     obtain ⟨acc, hacc⟩ : ∃ q, rMatchC c l = q := ⟨_, rfl⟩
     rw [hacc]
     have Hmq1 := Lib.hid hmq1
     have Hacc := Lib.hid hacc
     clear hmq1 hacc hmq hFq hEq
     cases acc with
     | true =>
      go_wp2_with fail
      go_roundw
      case rel =>
       refine ⟨i + 1, by go_num, hlt, Hmq1.out, fun k x' hk hx' => ?_⟩
       rcases Nat.lt_succ_iff_lt_or_eq.1 hk with hk | rfl
       ·exact Hall.out k x' hk hx'
       ·rw [Hci.out] at hx'; cases hx'; exact Hacc.out
      case measure => simp [intOf]; omega
     | false =>
      go_wp2
      go_ret
      exact ⟨ret_bool (by rw [← HR.out, List.all_eq_false.2 ⟨c, Hcm.out, by rw [Hacc.out]; decide⟩]), Hmb.out.trans Hmq1.out (fun _ _ h => h)⟩
  ·obtain rfl : i = cs.length := by omega
   have hfr : R = true := by
    rw [← HR.out, List.all_eq_true.2 fun x hx => by
     obtain ⟨k, hk⟩ := List.mem_iff_getElem?.1 hx
     exact hall k x (List.getElem?_eq_some_iff.1 hk).1 hk]
   have hm2 := Hmb.out.trans hmr (fun _ _ h => h)
   have Hfr := Lib.hid hfr
   have Hm2 := Lib.hid hm2
   clear hfr hm2 hall hmr hFr
   go_wp2
   go_ret
   exact ⟨ret_bool Hfr.out, Hm2.out⟩
end Go.Proofs.YtaenebdppkjhoaaGreatDoor
namespace Go.Proofs.YtaenebdppkjhoaaGreatDoor
set_option maxRecDepth 20000
open Go.RowKit
attribute [local go_sem ↓] run_load_cnd
end Go.Proofs.YtaenebdppkjhoaaGreatDoor
namespace Go.Proofs.YtaenebdppkjhoaaGreatDoor
set_option maxRecDepth 20000
open Go.RowKit
theorem homeOf_take {l : List Ru} {tenant : Int} {who : ByteArray} {j : Nat} {x : Ru} (h : l[j]? = some x) : homeOf (l.take (j + 1)) tenant who = if x.of 0 tenant who = true then some x.broker else homeOf (l.take j) tenant who := by
 unfold homeOf
 rw [List.take_add_one, h]
 simp only [Option.toList, List.reverse_append, List.reverse_cons, List.reverse_nil, List.nil_append, List.cons_append, List.find?_cons]
 cases hx : x.of 0 tenant who <;> rfl
set_option maxHeartbeats 2000000 in
theorem rhome_at (w : World) (v : Value) (l : List Ru) (hv : RuSl w v l) (hll : l.length ≤ 1000000) (tenant : Int) (who : ByteArray) :
 Calls Tryz.prog 21 #[v, .int .i64 tenant, .string who] w fun e w' => e = .returned (.int .i64 ((homeOf l tenant who).getD (-1))) ∧ Mod (fun _ => False) w w' := by
 obtain ⟨a, cap, rfl, hcap⟩ : ∃ a c, v = .slice a l.length c ∧ l.length ≤ c := by obtain ⟨-, a, c, h, h2, -⟩ := hv.rd; exact ⟨a, c, h, h2⟩
 have hll' : (l.length : Int) ≤ 1000000 := by omega
 have hcap' : (l.length : Int) ≤ cap := by omega
 obtain ⟨R, hR⟩ : ∃ R, homeOf l tenant who = R := ⟨_, rfl⟩
 rw [hR]
 have Hv := Lib.hid hv
 have HR := Lib.hid hR
 clear hv hR hll
 go_enter Tryz.func21, Tryz.ntmps21
 go_wp2_with fail
 go_loopw [7, 8] (fun av i wr => ∃ j : Nat, i = .int .i64 j ∧ j ≤ l.length ∧ av = .int .i64 ((homeOf (l.take j) tenant who).getD (-1)) ∧ Mod (fun _ => False) w wr) (fun _ i _ => l.length - (intOf i).toNat)
 case atStart => exact ⟨0, rfl, Nat.zero_le _, rfl, Mod.refl _ _⟩
 case round =>
  obtain ⟨j, rfl, hj, rfl, hmr⟩ := hrel
  by_cases hlt : j < l.length
  ·have hlt' : (j : Int) < l.length := by omega
   obtain ⟨x, hxj⟩ : ∃ x, l[j]? = some x := ⟨_, List.getElem?_eq_getElem hlt⟩
   obtain ⟨g, off, rfl, hf⟩ : ∃ g off, a = some ⟨g, off, none⟩ ∧ CellsAt wr g (off + j * 8) x.cells := rd_rule (Hv.out.mod hmr) hxj
   have c0 : wr.cell? ⟨g, off + j * 8, none⟩ = some (.int .i64 x.kind) := hf 0 _ rfl
   have c1 : wr.cell? ⟨g, off + j * 8 + 1, none⟩ = some (.int .i64 x.tenant) := hf 1 _ rfl
   have c2 : wr.cell? ⟨g, off + j * 8 + 2, none⟩ = some (.string x.who) := hf 2 _ rfl
   have c3 : wr.cell? ⟨g, off + j * 8 + 3, none⟩ = some (.int .i64 x.broker) := hf 3 _ rfl
   have hst := homeOf_take (tenant := tenant) (who := who) hxj
   obtain ⟨P, hP⟩ : ∃ P, homeOf (l.take j) tenant who = P := ⟨_, rfl⟩
   rw [hP] at hst ⊢
   have Hmr := Lib.hid hmr
   have Hxj := Lib.hid hxj
   have Hst := Lib.hid hst
   clear hmr hxj hst hP hf
   refine of_cases x 0 tenant who (fun h1 h4 => ?_) (fun h1 h2 h4 => ?_) (fun h1 h2 h3 h4 => ?_) (fun h1 h2 h3 h4 => ?_)
   all_goals
    have Hst := Lib.hid (show homeOf (l.take (j + 1)) tenant who = (if x.of 0 tenant who = true then some x.broker else P) from Hst.out)
    rw [h4] at Hst
    clear h4
    go_wp2_with fail
    go_roundw
    case rel => exact ⟨j + 1, by go_num, hlt, by rw [Hst.out]; rfl, Hmr.out⟩
    case measure => simp [intOf]; omega
  ·obtain rfl : j = l.length := by omega
   rw [List.take_length, HR.out]
   have Hmr := Lib.hid hmr
   clear hmr
   go_wp2
   go_ret
   exact ⟨rfl, Hmr.out⟩
set_option maxRecDepth 20000 in
set_option maxHeartbeats 8000000 in
theorem rmay_publish (tenant : Int) (who : ByteArray) (m : Ru → Bool) (w : World) (v : Value) (l : List Ru) (hv : RuSl w v l) (hll : l.length ≤ 1000000) (hbr : ∀ r ∈ l, r.of 0 tenant who = true → 0 ≤ r.broker) (es : ByteArray) (ea : Option Addr) (en ec : Nat)
 (hm : ∀ r ∈ l, ∀ wx, Mod (fun _ => False) w wx → r.of 1 tenant who = true → Calls Tryz.prog 41 #[.agg #[.string r.sc, r.cv], .agg #[.string es, .slice ea en ec]] wx fun e w' => e = .returned (.bool (m r)) ∧ Mod (fun _ => False) wx w') :
 Calls Tryz.prog 22 #[v, .int .i64 tenant, .string who, .agg #[.string es, .slice ea en ec]] w fun e w' =>
  e = .returned (.bool ((homeOf l tenant who).isSome && l.any fun r => r.of 1 tenant who && m r)) ∧ Mod (fun _ => False) w w' := by
 obtain ⟨a, cap, rfl, hcap⟩ : ∃ a c, v = .slice a l.length c ∧ l.length ≤ c := by obtain ⟨-, a, c, h, h2, -⟩ := hv.rd; exact ⟨a, c, h, h2⟩
 have hll' : (l.length : Int) ≤ 1000000 := by omega
 have hcap' : (l.length : Int) ≤ cap := by omega
 obtain ⟨wa, hwa⟩ : ∃ wa : World, w.alloc (.cells #[.string es, .slice ea en ec] 46) = wa := ⟨_, rfl⟩
 have hmwa : Mod (fun _ => False) w wa := hwa ▸ (Mod.refl (fun _ => False) w).alloc _
 have hgwa := heap_alloc_new w (.cells #[.string es, .slice ea en ec] 46)
 rw [hwa] at hgwa
 have hzwa : wa.heap.size = w.heap.size + 1 := by rw [← hwa]; simp
 have hva := hv.mod hmwa
 have hho := rhome_at wa (.slice a l.length cap) l hva hll tenant who
 have hqz : w.heap.size < wa.heap.size := by omega
 have hnn : ∀ b, homeOf l tenant who = some b → 0 ≤ b := fun b hb => by
  unfold homeOf at hb
  cases hf : l.reverse.find? (fun r => r.of 0 tenant who) with
  | none => rw [hf] at hb; cases hb
  | some r =>
   rw [hf] at hb
   cases hb
   exact hbr r (List.mem_reverse.1 (List.mem_of_find?_eq_some hf)) (List.find?_some (p := fun r : Ru => r.of 0 tenant who) hf)
 obtain ⟨R, hR⟩ : ∃ R, ((homeOf l tenant who).isSome && l.any fun r => r.of 1 tenant who && m r) = R := ⟨_, rfl⟩
 rw [hR]
 have Hv := Lib.hid hv
 have Hm := Lib.hid hm
 have Hwa := Lib.hid hwa
 have Hmwa := Lib.hid hmwa
 have Hgwa := Lib.hid hgwa
 have Hva := Lib.hid hva
 have Hho := Lib.hid hho
 have HR := Lib.hid hR
 have Hbr := Lib.hid hbr
 have Hnn := Lib.hid hnn
 clear hv hm hwa hmwa hgwa hva hho hR hbr hnn hzwa hll
 go_enter Tryz.func22, Tryz.ntmps22
 go_wp2_with (first | (rw [show w.alloc _ = wa from Hwa.out]) | fail)
 refine Hho.out.mono ?_
 rintro e w1 ⟨rfl, hm1⟩
 have hm01 := Hmwa.out.trans hm1 (fun _ _ h => h)
 have hg1 := hm1.heap Hgwa.out (fun h => h)
 have Hm01 := Lib.hid hm01
 have Hg1 := Lib.hid hg1
 clear hm01 hg1 hm1 Hho
 cases hh : homeOf l tenant who with
 | none =>
  have Hh := Lib.hid hh
  clear hh
  go_wp2
  go_ret
  exact ⟨ret_bool (by rw [← HR.out, Hh.out]; rfl), Hm01.out⟩
 | some h0 =>
 have hR2 : (l.any fun r => r.of 1 tenant who && m r) = R := by rw [← HR.out, hh]; rfl
 have hh0 := Hnn.out h0 hh
 have hgd : (some h0).getD (-1) = h0 := rfl
 rw [hgd]
 have HR2 := Lib.hid hR2
 clear hR2 hh HR hgd Hnn
 go_wp2_with fail
 go_loopw [9] (fun i wr => ∃ j : Nat, i = .int .i64 j ∧ j ≤ l.length ∧ Mod (fun _ => False) w1 wr ∧ (∀ (k : Nat) (x : Ru), k < j → l[k]? = some x → (x.of 1 tenant who && m x) = false)) (fun i _ => l.length - (intOf i).toNat)
 case atStart => exact ⟨0, rfl, Nat.zero_le _, Mod.refl _ _, fun k x hk => by omega⟩
 case round =>
  obtain ⟨j, rfl, hj, hmr, hall⟩ := hrel
  by_cases hlt : j < l.length
  ·have hlt' : (j : Int) < l.length := by omega
   obtain ⟨x, hxj⟩ : ∃ x, l[j]? = some x := ⟨_, List.getElem?_eq_getElem hlt⟩
   have hxm := List.mem_of_getElem? hxj
   have hm0r := Hm01.out.trans hmr (fun _ _ h => h)
   obtain ⟨g, off, rfl, hf⟩ : ∃ g off, a = some ⟨g, off, none⟩ ∧ CellsAt wr g (off + j * 8) x.cells := rd_rule (Hv.out.mod hm0r) hxj
   have hge := hmr.heap Hg1.out (fun h => h)
   have hfc : ∀ w', Mod (fun _ => False) wr w' → w'.cell? ⟨g, off + j * 8, none⟩ = some (.int .i64 x.kind) ∧ w'.cell? ⟨g, off + j * 8 + 1, none⟩ = some (.int .i64 x.tenant) ∧ w'.cell? ⟨g, off + j * 8 + 2, none⟩ = some (.string x.who) ∧
    w'.cell? ⟨g, off + j * 8 + 4, none⟩ = some (.string x.sc) ∧ w'.cell? ⟨g, off + j * 8 + 5, none⟩ = some (.slice x.ca x.cs.length x.cc) ∧ w'.cell? ⟨w.heap.size, 0, none⟩ = some (.string es) ∧ w'.cell? ⟨w.heap.size, 1, none⟩ = some (.slice ea en ec) := fun w' hw' => by
    have h2 := hf.mod hw' (fun h => h)
    have h3 := hw'.heap hge (fun h => h)
    exact ⟨h2 0 _ rfl, h2 1 _ rfl, h2 2 _ rfl, h2 4 _ rfl, h2 5 _ rfl, cell_of h3 rfl, cell_of h3 rfl⟩
   have hmt : x.of 1 tenant who = true → ∀ w', Mod (fun _ => False) wr w' → Calls Tryz.prog 41 #[.agg #[.string x.sc, .slice x.ca x.cs.length x.cc], .agg #[.string es, .slice ea en ec]] w' fun e w'' => e = .returned (.bool (m x)) ∧ Mod (fun _ => False) wr w'' :=
    fun ho w' hw' => (Hm.out x hxm w' (hm0r.trans hw' (fun _ _ h => h)) ho).mono fun e w'' h => ⟨h.1, hw'.trans h.2 (fun _ _ h => h)⟩
   obtain ⟨B, hB⟩ : ∃ B, m x = B := ⟨_, rfl⟩
   rw [hB] at hmt
   have Hmr := Lib.hid hmr
   have Hall := Lib.hid hall
   have Hxj := Lib.hid hxj
   have Hxm := Lib.hid hxm
   have Hf := Lib.hid hf
   have Hfc := Lib.hid hfc
   have Hmt := Lib.hid hmt
   have HB := Lib.hid hB
   clear hmr hall hxj hxm hf hfc hmt hB hge hm0r
   refine of_cases x 1 tenant who (fun h1 h4 => ?_) (fun h1 h2 h4 => ?_) (fun h1 h2 h3 h4 => ?_) (fun h1 h2 h3 h4 => ?_)
   iterate 3 (
    have Ho := Lib.hid h4
    clear h4 Hmt
    go_wp2_with fail
    refine wp_region_news (by kernel_rfl) (by kernel_rfl) ?_
    iterate 33 (first
     | (refine quiet_skip ?_ (fun K hK => ?_)
        ·first | (go_simp; done) | (go_simp; simp [undef]; done)
        go_simp; refine hK _ ?_; clear hK K)
     | (refine quiet_do ?_ ?_ (fun w' hw' => ?_) (fun K hK => ?_)
        ·first | (go_simp; done) | (go_simp; simp [undef]; done)
        rotate_left
        ·obtain ⟨f1, f2, f3, f4, f5, f6, f7⟩ := Hfc.out w' hw'
         go_simp
         rfl
        go_simp; refine hK _ ?_; clear hK K))
    refine quiet_end (fun w' hw' => ?_)
    have Hw' := Lib.hid (Hmr.out.trans hw' (fun _ _ h => h))
    clear hw'
    go_wp2_with fail
    go_roundw
    case rel =>
     refine ⟨j + 1, by go_num, hlt, Hw'.out, fun k x' hk hx' => ?_⟩
     rcases Nat.lt_succ_iff_lt_or_eq.1 hk with hk | rfl
     ·exact Hall.out k x' hk hx'
     ·rw [Hxj.out] at hx'; cases hx'; rw [Ho.out]; rfl
    case measure => simp [intOf]; omega)
   have Ho := Lib.hid h4
   have Hmt := Lib.hid (Hmt.out h4)
   clear h4
   cases B with
   | false =>
    go_wp2_with fail
    refine wp_region_news (by kernel_rfl) (by kernel_rfl) ?_
    iterate 33 (first
     | (refine quiet_skip ?_ (fun K hK => ?_)
        ·first | (go_simp; done) | (go_simp; simp [undef]; done)
        go_simp; refine hK _ ?_; clear hK K)
     | (refine quiet_do ?_ ?_ (fun w' hw' => ?_) (fun K hK => ?_)
        ·first | (go_simp; done) | (go_simp; simp [undef]; done)
        rotate_left
        ·obtain ⟨f1, f2, f3, f4, f5, f6, f7⟩ := Hfc.out w' hw'
         go_simp
         rfl
        go_simp; refine hK _ ?_; clear hK K)
     | (refine quiet_in ?_ ?_ ?_ ?_ (fun w' hw' => ?_) ?_ (fun K hK => ?_)
        ·first | (go_simp; done) | (go_simp; simp [undef]; done)
        rotate_left 3
        ·obtain ⟨f1, f2, f3, f4, f5, f6, f7⟩ := Hfc.out w' hw'
         go_simp
         constructor <;> rfl
        ·first | exact Hmt.out
        go_simp; refine hK _ ?_; clear hK K))
    refine quiet_end (fun w' hw' => ?_)
    have Hw' := Lib.hid (Hmr.out.trans hw' (fun _ _ h => h))
    clear hw'
    go_wp2_with fail
    go_roundw
    case rel =>
     refine ⟨j + 1, by go_num, hlt, Hw'.out, fun k x' hk hx' => ?_⟩
     rcases Nat.lt_succ_iff_lt_or_eq.1 hk with hk | rfl
     ·exact Hall.out k x' hk hx'
     ·rw [Hxj.out] at hx'; cases hx'; rw [Ho.out, HB.out]; rfl
    case measure => simp [intOf]; omega
   | true =>
    go_wp2_with fail
    refine wp_region_news (by kernel_rfl) (by kernel_rfl) ?_
    iterate 33 (first
     | (refine quiet_skip ?_ (fun K hK => ?_)
        ·first | (go_simp; done) | (go_simp; simp [undef]; done)
        go_simp; refine hK _ ?_; clear hK K)
     | (refine quiet_do ?_ ?_ (fun w' hw' => ?_) (fun K hK => ?_)
        ·first | (go_simp; done) | (go_simp; simp [undef]; done)
        rotate_left
        ·obtain ⟨f1, f2, f3, f4, f5, f6, f7⟩ := Hfc.out w' hw'
         go_simp
         rfl
        go_simp; refine hK _ ?_; clear hK K)
     | (refine quiet_in ?_ ?_ ?_ ?_ (fun w' hw' => ?_) ?_ (fun K hK => ?_)
        ·first | (go_simp; done) | (go_simp; simp [undef]; done)
        rotate_left 3
        ·obtain ⟨f1, f2, f3, f4, f5, f6, f7⟩ := Hfc.out w' hw'
         go_simp
         constructor <;> rfl
        ·first | exact Hmt.out
        go_simp; refine hK _ ?_; clear hK K))
    refine quiet_end (fun w' hw' => ?_)
    have Hw' := Lib.hid (Hmr.out.trans hw' (fun _ _ h => h))
    clear hw'
    go_wp2
    go_ret
    exact ⟨ret_bool (by rw [← HR2.out, List.any_eq_true.2 ⟨x, Hxm.out, by rw [Ho.out, HB.out]; rfl⟩]), Hm01.out.trans Hw'.out (fun _ _ h => h)⟩
  ·obtain rfl : j = l.length := by omega
   have hm0r := Hm01.out.trans hmr (fun _ _ h => h)
   have hf : R = false := by
    rw [← HR2.out, List.any_eq_false.2 fun x hx => by
     obtain ⟨k, hk⟩ := List.mem_iff_getElem?.1 hx
     rw [hall k x (List.getElem?_eq_some_iff.1 hk).1 hk]
     decide]
   have Hm0r := Lib.hid hm0r
   have Hf := Lib.hid hf
   clear hm0r hf hmr hall
   go_wp2
   go_ret
   exact ⟨ret_bool Hf.out, Hm0r.out⟩
end Go.Proofs.YtaenebdppkjhoaaGreatDoor
namespace Go.Proofs.YtaenebdppkjhoaaGreatDoor
set_option maxRecDepth 20000
open Go.RowKit
theorem Ru.right_is {r : Ru} (h : r.rightB = true) : (r.kind = 0 → 0 ≤ r.broker) ∧ (r.kind = 1 ∨ r.kind = 2 → filRight r.sc r.cs = true) := by
 unfold Ru.rightB at h
 by_cases h4 : r.kind = 4
 ·exact ⟨fun hk => by omega, fun hk => by omega⟩
 rw [if_neg h4] at h
 by_cases hw : r.kind < 0 ∨ 4 < r.kind ∨ r.tenant < 0 ∨ 4 ≤ r.tenant ∨ isName r.who = false
 ·rw [if_pos hw] at h
  cases h
 rw [if_neg hw] at h
 constructor
 ·intro hk
  rw [if_pos hk] at h
  simp only [Bool.and_eq_true, decide_eq_true_eq] at h
  exact h.1
 ·intro hk
  have h0 : ¬ r.kind = 0 := by omega
  have h3 : ¬ r.kind = 3 := by omega
  rw [if_neg h0, if_neg h3] at h
  exact h
theorem Ru.of_kind {r : Ru} {k t : Int} {who : ByteArray} (h : r.of k t who = true) : r.kind = k := by
 unfold Ru.of at h
 simp only [Bool.and_eq_true, beq_iff_eq] at h
 exact h.1
theorem who_at {u : Nat} (h : u < 4) : ∃ W : ByteArray, (#[.string ⟨#[97]⟩, .string ⟨#[98]⟩, .string ⟨#[99]⟩, .string ⟨#[100]⟩] : Array Value)[u]? = some (.string W) ∧ W.size = 1 := by
 rcases (by omega : u = 0 ∨ u = 1 ∨ u = 2 ∨ u = 3) with rfl | rfl | rfl | rfl
 ·exact ⟨_, rfl, rfl⟩
 ·exact ⟨_, rfl, rfl⟩
 ·exact ⟨_, rfl, rfl⟩
 ·exact ⟨_, rfl, rfl⟩
end Go.Proofs.YtaenebdppkjhoaaGreatDoor
namespace Go.Proofs.YtaenebdppkjhoaaGreatDoor
set_option maxRecDepth 20000
open Go.ChangeShapes Go.WideShapes Go.ChangeAt Go.RowKit
section
variable {H : Type} {enc : TypeId × Value → H} {W : World}
theorem trod_array2 {base : Nat} {spare : Nat → Bool} {held : Bool} {t e : TypeId} {fuel : Nat} {c0 c1 : Value} {x : DataW H × List MemPlace} (ht : Tryz.prog.underlying t = some (.array 2 e)) (hce : Tryz.prog.cellsOf e = 1)
 (h : DataW.trod enc Tryz.prog W base spare held fuel t [c0, c1] = some x) : ∃ y0 y1 n, DataW.trod enc Tryz.prog W base spare held n e [c0] = some y0 ∧ DataW.trod enc Tryz.prog W base spare held n e [c1] = some y1 := by
 cases fuel with
 | zero => simp [DataW.trod] at h
 | succ n =>
  unfold DataW.trod at h
  rw [ht] at h
  have r2 : List.range 2 = [0, 1] := rfl
  simp [r2, hce] at h
  obtain ⟨_, h⟩ := h
  cases h0 : DataW.trod enc Tryz.prog W base spare held n e [c0] with
  | none => simp [h0] at h
  | some y0 =>
   cases h1 : DataW.trod enc Tryz.prog W base spare held n e [c1] with
   | none => simp [h0, h1] at h
   | some y1 => exact ⟨y0, y1, n, h0, h1⟩
theorem open_ids {base : Nat} {v : Value} {d : DataW H} {p : List MemPlace} (hok : Value.okWide Tryz.prog W .any base 65 v) (h : DataW.Trod enc Tryz.prog W 0 (fun _ => true) true 65 v d p) :
 ∃ x y : Int, v = .agg #[.int .i64 x, .int .i64 y] := by
 simp only [Value.okWide, Tryz.underlying65] at hok
 obtain ⟨cs, rfl, hsz, -⟩ := hok
 rw [show Tryz.prog.cellsOf 65 = 2 by kernel_rfl] at hsz
 obtain ⟨m, hm⟩ := h
 obtain ⟨l⟩ := cs
 match l, hsz with
 | [c0, c1], _ =>
  obtain ⟨y0, y1, n, h0, h1⟩ := trod_array2 (c0 := c0) (c1 := c1) Tryz.underlying65 (by kernel_rfl) hm
  obtain ⟨z0, e0, -⟩ := DataW.trod_int Tryz.underlying3 h0
  obtain ⟨z1, e1, -⟩ := DataW.trod_int Tryz.underlying3 h1
  cases e0
  cases e1
  exact ⟨z0, z1, rfl⟩
end
end Go.Proofs.YtaenebdppkjhoaaGreatDoor
namespace Go.Proofs
open Go.Shelf
def Tryz.lays189_ren : Go.Shelf.Ren := ⟨fun | 189 => 171 | 125 => 116 | 257 => 196 | 128 => 162 | 129 => 163 | 294 => 212 | 295 => 213 | 296 => 214 | 297 => 215 | 298 => 216 | 299 => 217 | 216 => 218 | 300 => 219 | 301 => 220 | 328 => 241 | 329 => 187 | 330 => 188 | 331 => 242 | 332 => 243 | 215 => 244 | 343 => 270 | n => n, fun | 28 => 23 | 3 => 3 | 46 => 194 | 0 => 0 | 51 => 231 | 53 => 221 | 4 => 4 | 183 => 225 | 182 => 224 | 131 => 166 | 5 => 5 | 9 => 9 | 218 => 244 | 222 => 248 | 228 => 271 | 229 => 272 | n => n, fun | n => n⟩
theorem Tryz.lays189 : Go.Proofs.Lays.n189 Tryz.prog Tryz.lays189_ren := {
 mixed := by kernel_rfl
 f125 := Tryz.func116.trans (congrArg some (by kernel_rfl))
 f128 := Tryz.func162.trans (congrArg some (by kernel_rfl))
 f129 := Tryz.func163.trans (congrArg some (by kernel_rfl))
 f189 := Tryz.func171.trans (congrArg some (by kernel_rfl))
 f215 := Tryz.func244.trans (congrArg some (by kernel_rfl))
 f216 := Tryz.func218.trans (congrArg some (by kernel_rfl))
 f257 := Tryz.func196.trans (congrArg some (by kernel_rfl))
 f294 := Tryz.func212.trans (congrArg some (by kernel_rfl))
 f295 := Tryz.func213.trans (congrArg some (by kernel_rfl))
 f296 := Tryz.func214.trans (congrArg some (by kernel_rfl))
 f297 := Tryz.func215.trans (congrArg some (by kernel_rfl))
 f298 := Tryz.func216.trans (congrArg some (by kernel_rfl))
 f299 := Tryz.func217.trans (congrArg some (by kernel_rfl))
 f300 := Tryz.func219.trans (congrArg some (by kernel_rfl))
 f301 := Tryz.func220.trans (congrArg some (by kernel_rfl))
 f328 := Tryz.func241.trans (congrArg some (by kernel_rfl))
 f329 := Tryz.func187.trans (congrArg some (by kernel_rfl))
 f330 := Tryz.func188.trans (congrArg some (by kernel_rfl))
 f331 := Tryz.func242.trans (congrArg some (by kernel_rfl))
 f332 := Tryz.func243.trans (congrArg some (by kernel_rfl))
 f343 := Tryz.func270.trans (congrArg some (by kernel_rfl))
 t0 := Tryz.underlying0
 a0 := Tryz.isAgg0
 z0 := Tryz.sizeOf0
 v0 := Tryz.zeroValue0
 t3 := Tryz.underlying3
 a3 := Tryz.isAgg3
 z3 := Tryz.sizeOf3
 v3 := Tryz.zeroValue3
 t4 := Tryz.underlying4
 a4 := Tryz.isAgg4
 z4 := Tryz.sizeOf4
 v4 := Tryz.zeroValue4
 t5 := Tryz.underlying5
 a5 := Tryz.isAgg5
 z5 := Tryz.sizeOf5
 v5 := Tryz.zeroValue5
 t9 := Tryz.underlying9
 a9 := Tryz.isAgg9
 z9 := Tryz.sizeOf9
 v9 := Tryz.zeroValue9
 t28 := Tryz.underlying23
 a28 := Tryz.isAgg23
 z28 := Tryz.sizeOf23
 v28 := Tryz.zeroValue23
 t46 := Tryz.underlying194
 a46 := Tryz.isAgg194
 z46 := Tryz.sizeOf194
 v46 := Tryz.zeroValue194
 t51 := Tryz.underlying231
 a51 := Tryz.isAgg231
 z51 := Tryz.sizeOf231
 v51 := Tryz.zeroValue231
 t53 := Tryz.underlying221
 a53 := Tryz.isAgg221
 z53 := Tryz.sizeOf221
 v53 := Tryz.zeroValue221
 t131 := Tryz.underlying166
 a131 := Tryz.isAgg166
 z131 := Tryz.sizeOf166
 v131 := Tryz.zeroValue166
 t182 := Tryz.underlying224
 a182 := Tryz.isAgg224
 z182 := Tryz.sizeOf224
 v182 := Tryz.zeroValue224
 t183 := Tryz.underlying225
 a183 := Tryz.isAgg225
 z183 := Tryz.sizeOf225
 v183 := Tryz.zeroValue225
 t218 := Tryz.underlying244
 a218 := Tryz.isAgg244
 z218 := Tryz.sizeOf244
 v218 := Tryz.zeroValue244
 t222 := Tryz.underlying248
 a222 := Tryz.isAgg248
 z222 := Tryz.sizeOf248
 v222 := Tryz.zeroValue248
 t228 := Tryz.underlying271
 a228 := Tryz.isAgg271
 z228 := Tryz.sizeOf271
 v228 := Tryz.zeroValue271
 t229 := Tryz.underlying272
 a229 := Tryz.isAgg272
 z229 := Tryz.sizeOf272
 v229 := Tryz.zeroValue272 }
open Go.Sort Go.RowKit in
theorem Tryz.slices_Sort_int (blk off cap : Nat) (zs : List Int) (w : World) (hH : Holds (Value.int .i64) w blk off zs.toArray) (hblk : blk < w.heap.size) (hsz : zs.length < 4611686018427387904) :
 Calls Tryz.prog 171 #[.slice (some ⟨blk, off, none⟩) zs.length cap] w fun e w' =>
  e = .returned (.tuple #[]) ∧ ∃ n os, w' = grow (putRow (Value.int .i64) (Sort.ahead w n) blk off (zs.mergeSort fun x y => decide (x ≤ y)).toArray) os := Any.slices_Sort_int Tryz.lays189 blk off cap zs w hH hblk hsz
open Go.RowKit Go.Sort in
theorem Tryz.slices_Sort_int_none (p : Option Addr) (cap : Nat) (w : World) :
 Calls Tryz.prog 171 #[.slice p 0 cap] w fun e w' => e = .returned (.tuple #[]) ∧ w' = w := Any.slices_Sort_int_none Tryz.lays189 p cap w
end Go.Proofs
namespace Go.Proofs.YtaenebdppkjhoaaGreatDoor
set_option maxRecDepth 20000
theorem val_inj (a b : Nat) (ha : 1 ≤ a) (hb : 1 ≤ b) (ha2 : a < 2047 * 2 ^ 52) (hb2 : b < 2047 * 2 ^ 52) (h : valV a = valV b) : a = b := by
 rcases Nat.lt_trichotomy a b with hl | he | hl
 ·have := val_lt a (b - a - 1) ha (by omega)
  rw [show a + (b - a - 1) + 1 = b by omega] at this
  omega
 ·exact he
 ·have := val_lt b (a - b - 1) hb (by omega)
  rw [show b + (a - b - 1) + 1 = a by omega] at this
  omega
end Go.Proofs.YtaenebdppkjhoaaGreatDoor
namespace Go.Proofs.YtaenebdppkjhoaaGreatDoor
set_option maxRecDepth 20000
theorem efg_inj {n1 n2 : Bool} {d1 d2 : List UInt8} {p1 p2 : Int} (c1 : Clean d1) (c2 : Clean d2) (z1 : d1 = [] → p1 = 0) (z2 : d2 = [] → p2 = 0) (r1 : -400 ≤ p1 ∧ p1 ≤ 400) (r2 : -400 ≤ p2 ∧ p2 ≤ 400)
 (h : efgT n1 d1 p1 = efgT n2 d2 p2) : n1 = n2 ∧ d1 = d2 ∧ p1 = p2 := by
 rw [efg_sgn, efg_sgn] at h
 obtain ⟨a1, l1, b1, g1⟩ := body_head (dp := p1) c1
 obtain ⟨a2, l2, b2, g2⟩ := body_head (dp := p2) c2
 have hn : n1 = n2 ∧ bodyT d1 p1 = bodyT d2 p2 := by
  have ne1 := dig_ne g1 45 (.inr (.inr rfl))
  have ne2 := dig_ne g2 45 (.inr (.inr rfl))
  rw [bne_iff_ne] at ne1 ne2
  cases n1 <;> cases n2 <;> simp only [sgnT, Bool.false_eq_true, if_false, if_true, List.nil_append] at h
  ·exact ⟨rfl, h⟩
  ·rw [b1] at h; simp at h; exact absurd h.1 ne1
  ·rw [b2] at h; simp at h; exact absurd h.1.symm ne2
  ·simp at h; exact ⟨rfl, h⟩
 have e1 := decT_body c1 z1 r1
 have e2 := decT_body c2 z2 r2
 rw [hn.2, e2] at e1
 exact ⟨hn.1, (congrArg Prod.fst e1).symm, (congrArg Prod.snd e1).symm⟩
theorem efg_heads {neg : Bool} {ds : List UInt8} {dp : Int} (h : Clean ds) : (∃ c r, efgT neg ds dp = c :: r ∧ isDig c ∧ neg = false) ∨ (∃ c r, efgT neg ds dp = 45 :: c :: r ∧ isDig c ∧ neg = true) := by
 rw [efg_sgn]
 obtain ⟨c, r, h1, h2⟩ := body_head (dp := dp) h
 rw [h1]
 cases neg
 ·exact .inl ⟨c, r, rfl, h2, rfl⟩
 ·exact .inr ⟨c, r, rfl, h2, rfl⟩
theorem flt_inj {a b : Nat} (ha : a < 2 ^ 64) (hb : b < 2 ^ 64) (na : a % 2 ^ 63 / 2 ^ 52 = 2047 → a % 2 ^ 52 ≠ 0 → a = 9221120237041090561) (nb : b % 2 ^ 63 / 2 ^ 52 = 2047 → b % 2 ^ 52 ≠ 0 → b = 9221120237041090561)
 (za : a % 2 ^ 63 = 0 → a = 0) (zb : b % 2 ^ 63 = 0 → b = 0) (h : fltT a = fltT b) : a = b := by
 have nd1 : ¬ isDig 78 := by unfold isDig; decide
 have nd2 : ¬ isDig 73 := by unfold isDig; decide
 have nd3 : ¬ isDig 43 := by unfold isDig; decide
 have nd4 : ¬ isDig 45 := by unfold isDig; decide
 have spec : ∀ {neg : Bool} {ds : List UInt8} {dp : Int}, Clean ds → efgT neg ds dp ≠ [78, 97, 78] ∧ efgT neg ds dp ≠ [45, 73, 110, 102] ∧ efgT neg ds dp ≠ [43, 73, 110, 102] := by
  intro neg ds dp hc
  rcases efg_heads (neg := neg) (dp := dp) hc with ⟨c, r, h1, h2, -⟩ | ⟨c, r, h1, h2, -⟩
  ·rw [h1]
   refine ⟨fun h => ?_, fun h => ?_, fun h => ?_⟩ <;> simp at h <;> rw [h.1] at h2
   ·exact nd1 h2
   ·exact nd4 h2
   ·exact nd3 h2
  ·rw [h1]
   refine ⟨fun h => ?_, fun h => ?_, fun h => ?_⟩ <;> simp at h
   rw [h.1] at h2
   exact nd2 h2
 rcases way_of a with ⟨a1, a2, at'⟩ | ⟨a1, a2, a3, at'⟩ | ⟨a1, a2, a3, at'⟩ | ⟨a1, ds, dp, ac, az, a0, ar, av, at'⟩ <;>
 rcases way_of b with ⟨b1, b2, bt⟩ | ⟨b1, b2, b3, bt⟩ | ⟨b1, b2, b3, bt⟩ | ⟨b1, es, ep, bc, bz, b0, br, bv, bt⟩ <;>
 rw [at', bt] at h
 ·rw [na a1 a2, nb b1 b2]
 ·simp at h
 ·simp at h
 ·exact absurd h.symm (spec bc).1
 ·simp at h
 ·omega
 ·simp at h
 ·exact absurd h.symm (spec bc).2.1
 ·simp at h
 ·simp at h
 ·omega
 ·exact absurd h.symm (spec bc).2.2
 ·exact absurd h (spec ac).1
 ·exact absurd h (spec ac).2.1
 ·exact absurd h (spec ac).2.2
 ·obtain ⟨h1, h2, h3⟩ := efg_inj ac bc a0 b0 ar br h
  subst h2 h3
  have hs : a / 2 ^ 63 = b / 2 ^ 63 := by
   by_cases x : a / 2 ^ 63 = 0 <;> by_cases y : b / 2 ^ 63 = 0 <;> simp [x, y] at h1 <;> omega
  by_cases hz : ds = []
  ·rw [za (az.1 hz), zb (bz.1 hz)]
  ·have hza : a % 2 ^ 63 ≠ 0 := fun e => hz (az.2 e)
   have hzb : b % 2 ^ 63 ≠ 0 := fun e => hz (bz.2 e)
   have := val_inj (a % 2 ^ 63) (b % 2 ^ 63) (by omega) (by omega) (by omega) (by omega) ((av hza).trans (bv hzb).symm)
   omega
end Go.Proofs.YtaenebdppkjhoaaGreatDoor
namespace Go.Proofs.YtaenebdppkjhoaaGreatDoor
set_option maxRecDepth 20000
open Go.RowKit
section
variable {w w' w'' : World} {p : Nat} {v v' v'' : Value} {bs : List UInt8}
end
theorem ints_T : SliceT Tryz.prog 23 3 1 8 := sliceT (by kernel_rfl) (by kernel_rfl)
end Go.Proofs.YtaenebdppkjhoaaGreatDoor
namespace Go.Proofs.YtaenebdppkjhoaaGreatDoor
set_option maxRecDepth 20000
structure Kept (b : Nat) : Prop where
 lt : b < 2 ^ 64
 nan : b % 2 ^ 63 / 2 ^ 52 = 2047 → b % 2 ^ 52 ≠ 0 → b = 9221120237041090561
 zero : b % 2 ^ 63 = 0 → b = 0
theorem numT_inj {a b : Nat} (ka : Kept a) (kb : Kept b) (h : numT a = numT b) : a = b := by
 have nd1 : ¬ isDig 78 := by unfold isDig; decide
 have nd2 : ¬ isDig 73 := by unfold isDig; decide
 have nd3 : ¬ isDig 43 := by unfold isDig; decide
 have nd4 : ¬ isDig 45 := by unfold isDig; decide
 have sp : ∀ {neg : Bool} {t : List UInt8}, (∃ c r, t = c :: r ∧ isDig c) → sgnT neg ++ t ≠ [78, 97, 78] ∧ sgnT neg ++ t ≠ [45, 73, 110, 102] ∧ sgnT neg ++ t ≠ [43, 73, 110, 102] := by
  rintro neg t ⟨c, r, rfl, h2⟩
  cases neg
  ·refine ⟨fun h => ?_, fun h => ?_, fun h => ?_⟩ <;> simp [sgnT] at h <;> rw [h.1] at h2
   ·exact nd1 h2
   ·exact nd4 h2
   ·exact nd3 h2
  ·refine ⟨fun h => ?_, fun h => ?_, fun h => ?_⟩ <;> simp [sgnT] at h
   rw [h.1] at h2
   exact nd2 h2
 rcases way_of a with ⟨a1, a2, at'⟩ | ⟨a1, a2, a3, at'⟩ | ⟨a1, a2, a3, at'⟩ | ⟨a1, ds, dp, ac, az, a0, ar, av, at'⟩ <;>
 rcases way_of b with ⟨b1, b2, bt⟩ | ⟨b1, b2, b3, bt⟩ | ⟨b1, b2, b3, bt⟩ | ⟨b1, es, ep, bc, bz, b0, br, bv, bt⟩
 ·rw [ka.nan a1 a2, kb.nan b1 b2]
 ·rw [numT_nan at', numT_minf bt] at h; simp at h
 ·rw [numT_nan at', numT_pinf bt] at h; simp at h
 ·obtain ⟨t, h1, -, h2, -⟩ := numT_fin bc b0 br bt
  rw [numT_nan at', h1] at h
  exact absurd h.symm (sp h2).1
 ·rw [numT_minf at', numT_nan bt] at h; simp at h
 ·have := ka.lt; have := kb.lt; omega
 ·rw [numT_minf at', numT_pinf bt] at h; simp at h
 ·obtain ⟨t, h1, -, h2, -⟩ := numT_fin bc b0 br bt
  rw [numT_minf at', h1] at h
  exact absurd h.symm (sp h2).2.1
 ·rw [numT_pinf at', numT_nan bt] at h; simp at h
 ·rw [numT_pinf at', numT_minf bt] at h; simp at h
 ·have := ka.lt; have := kb.lt; omega
 ·obtain ⟨t, h1, -, h2, -⟩ := numT_fin bc b0 br bt
  rw [numT_pinf at', h1] at h
  exact absurd h.symm (sp h2).2.2
 ·obtain ⟨t, h1, -, h2, -⟩ := numT_fin ac a0 ar at'
  rw [numT_nan bt, h1] at h
  exact absurd h (sp h2).1
 ·obtain ⟨t, h1, -, h2, -⟩ := numT_fin ac a0 ar at'
  rw [numT_minf bt, h1] at h
  exact absurd h (sp h2).2.1
 ·obtain ⟨t, h1, -, h2, -⟩ := numT_fin ac a0 ar at'
  rw [numT_pinf bt, h1] at h
  exact absurd h (sp h2).2.2
 ·obtain ⟨t, h1, h2, ⟨c, r, h3, h4⟩, -⟩ := numT_fin ac a0 ar at'
  obtain ⟨u, g1, g2, ⟨d, q, g3, g4⟩, -⟩ := numT_fin bc b0 br bt
  rw [h1, g1] at h
  have hs : decide (a / 2 ^ 63 ≠ 0) = decide (b / 2 ^ 63 ≠ 0) ∧ t = u := by
   have ne1 := dig_ne h4 45 (.inr (.inr rfl))
   have ne2 := dig_ne g4 45 (.inr (.inr rfl))
   rw [bne_iff_ne] at ne1 ne2
   generalize decide (a / 2 ^ 63 ≠ 0) = n1 at h
   generalize decide (b / 2 ^ 63 ≠ 0) = n2 at h
   cases n1 <;> cases n2 <;> simp only [sgnT, Bool.false_eq_true, if_false, if_true, List.nil_append] at h
   ·exact ⟨rfl, h⟩
   ·rw [h3] at h; simp at h; exact absurd h.1 ne1
   ·rw [g3] at h; simp at h; exact absurd h.1.symm ne2
   ·simp at h; exact ⟨rfl, h⟩
  rw [hs.2, g2] at h2
  have h3 : es = ds := congrArg Prod.fst h2
  have h4 : ep = dp := congrArg Prod.snd h2
  subst h3 h4
  refine flt_inj ka.lt kb.lt ka.nan kb.nan ka.zero kb.zero ?_
  rw [at', bt, hs.1]
end Go.Proofs.YtaenebdppkjhoaaGreatDoor
namespace Go.Proofs.YtaenebdppkjhoaaGreatDoor
set_option maxRecDepth 20000
open Go.Lib
def bI (l : List UInt8) : List Int := l.map fun b => (b.toNat : Int)
theorem bI_append (a b : List UInt8) : bI (a ++ b) = bI a ++ bI b := List.map_append
theorem bI_inj {a b : List UInt8} (h : bI a = bI b) : a = b := by
 induction a generalizing b with
 | nil => cases b with
  | nil => rfl
  | cons c l => simp [bI] at h
 | cons x l ih =>
  cases b with
  | nil => simp [bI] at h
  | cons y m =>
   simp only [bI, List.map_cons, List.cons.injEq] at h
   have h1 : x = y := UInt8.toNat_inj.1 (by omega)
   rw [h1, ih (b := m) h.2]
theorem qget_at (s : ByteArray) (i : Nat) : s.get! i = s.data.toList.getD i 0 := by
 show s.data[i]! = _
 rw [List.getD_eq_getElem?_getD, Array.getElem?_toList, getElem!_def]
 cases s.data[i]? <;> rfl
theorem extract_list (s : ByteArray) (k : Nat) : (s.extract k s.size).data.toList = s.data.toList.drop k := by
 have : (s.extract k s.size).data = s.data.extract k s.size := by rw [ByteArray.data_extract]
 rw [this, Array.toList_extract, List.extract_eq_take_drop]
 exact List.take_of_length_le (by rw [List.length_drop, Array.length_toList]; exact Nat.le_refl _)
theorem len4 {b0 : UInt8} {l : List UInt8} (h : 3 < (b0 :: l).length) : ∃ b1 b2 b3 m, l = b1 :: b2 :: b3 :: m := by
 match l, h with
 | b1 :: b2 :: b3 :: m, _ => exact ⟨b1, b2, b3, m, rfl⟩
 | [_, _], h => simp at h
 | [_], h => simp at h
 | [], h => simp at h
theorem two_eq {a b c d : Int} (h : a = c) (i : b = d) : [a, b] = [c, d] := by rw [h, i]
theorem three_eq {a b c d e f : Int} (h : a = d) (i : b = e) (j : c = f) : [a, b, c] = [d, e, f] := by rw [h, i, j]
theorem four_eq {a b c d e f g k : Int} (h : a = e) (i : b = f) (j : c = g) (l : d = k) : [a, b, c, d] = [e, f, g, k] := by rw [h, i, j, l]
set_option maxRecDepth 20000 in
theorem dec_enc (s : ByteArray) (h0 : 0 < s.size) (hg : ¬ ((Utf8.decode s 0).2 = 1 ∧ (Utf8.decode s 0).1 = 65533)) :
 bI s.data.toList = encodeRuneZ ((Utf8.decode s 0).1 : Int) ++ bI (s.extract (Utf8.decode s 0).2 s.size).data.toList := by
 rw [extract_list]
 rw [decode_at] at hg ⊢
 simp only [qget_at, Nat.zero_add] at hg ⊢
 have hsz : s.size = s.data.toList.length := by show s.data.size = _; rw [Array.length_toList]
 rw [hsz] at hg h0 ⊢
 generalize s.data.toList = L at hg h0 ⊢
 match L, h0 with
 | b0 :: l, _ =>
  have t0 := b0.toNat_lt
  simp only [List.getD_cons_zero, List.getD_cons_succ, Nat.sub_zero] at hg ⊢
  unfold decodeN at hg ⊢
  by_cases c1 : b0.toNat < 128
  ·rw [if_pos c1]
   simp only
   rw [encodeRuneZ_one (by omega) (by omega)]
   rfl
  rw [if_neg c1] at hg ⊢
  by_cases c2 : b0.toNat / 32 = 6 ∧ (1 < (b0 :: l).length ∧ (l.getD 0 0).toNat / 64 = 2)
  ·rw [if_pos c2] at hg ⊢
   split at hg
   ·rename_i c3
    rw [if_pos c3]
    match l, c2 with
    | b1 :: m, c2 =>
     simp only [List.getD_cons_zero] at c2 c3 ⊢
     have t1 := b1.toNat_lt
     rw [encodeRuneZ_two (by omega) (by omega)]
     rw [show bI (b0 :: b1 :: m) = [(b0.toNat : Int), b1.toNat] ++ bI m from rfl, show List.drop 2 (b0 :: b1 :: m) = m from rfl]
     refine congrArg (· ++ bI m) (two_eq ?_ ?_) <;> omega
    | [], c2 => simp at c2
   ·exact absurd ⟨rfl, rfl⟩ hg
  rw [if_neg c2] at hg ⊢
  by_cases c3 : b0.toNat / 16 = 14 ∧ (1 < (b0 :: l).length ∧ (l.getD 0 0).toNat / 64 = 2) ∧ (2 < (b0 :: l).length ∧ (l.getD 1 0).toNat / 64 = 2)
  ·rw [if_pos c3] at hg ⊢
   split at hg
   ·rename_i c4
    rw [if_pos c4]
    match l, c3 with
    | b1 :: b2 :: m, c3 =>
     simp only [List.getD_cons_zero, List.getD_cons_succ] at c3 c4 ⊢
     have t1 := b1.toNat_lt
     have t2 := b2.toNat_lt
     rw [encodeRuneZ_three (by omega)]
     rw [show bI (b0 :: b1 :: b2 :: m) = [(b0.toNat : Int), b1.toNat, b2.toNat] ++ bI m from rfl, show List.drop 3 (b0 :: b1 :: b2 :: m) = m from rfl]
     refine congrArg (· ++ bI m) (three_eq ?_ ?_ ?_) <;> omega
    | [_], c3 => simp at c3
    | [], c3 => simp at c3
   ·exact absurd ⟨rfl, rfl⟩ hg
  rw [if_neg c3] at hg ⊢
  by_cases c4 : b0.toNat / 8 = 30 ∧ (1 < (b0 :: l).length ∧ (l.getD 0 0).toNat / 64 = 2) ∧ (2 < (b0 :: l).length ∧ (l.getD 1 0).toNat / 64 = 2) ∧ (3 < (b0 :: l).length ∧ (l.getD 2 0).toNat / 64 = 2)
  ·rw [if_pos c4] at hg ⊢
   split at hg
   ·rename_i c5
    rw [if_pos c5]
    obtain ⟨b1, b2, b3, m, rfl⟩ := len4 c4.2.2.2.1
    ·simp only [List.getD_cons_zero, List.getD_cons_succ] at c4 c5 ⊢
     have t1 := b1.toNat_lt
     have t2 := b2.toNat_lt
     have t3 := b3.toNat_lt
     rw [encodeRuneZ_four (by omega) (by omega)]
     rw [show bI (b0 :: b1 :: b2 :: b3 :: m) = [(b0.toNat : Int), b1.toNat, b2.toNat, b3.toNat] ++ bI m from rfl, show List.drop 4 (b0 :: b1 :: b2 :: b3 :: m) = m from rfl]
     refine congrArg (· ++ bI m) (four_eq ?_ ?_ ?_ ?_) <;> omega
   ·exact absurd ⟨rfl, rfl⟩ hg
  rw [if_neg c4] at hg
  exact absurd ⟨rfl, rfl⟩ hg
def unhex (x : Int) : Int := if x < 60 then x - 48 else x - 87
theorem unhex_hex (x : Nat) (h : x < 16) : unhex (Lib.hexDigit x) = x := by
 unfold unhex Lib.hexDigit
 split
 ·rw [if_pos (by omega)]; omega
 ·rw [if_neg (by omega)]; omega
def unhexs (l : List Int) : Int := l.foldl (fun a x => 16 * a + unhex x) 0
theorem unhexs4 (r : Nat) (h : r < 65536) : unhexs (hexDigits r 4) = r := by
 simp only [unhexs, hexDigits, List.foldl_cons, List.foldl_nil, unhex_hex _ (Nat.mod_lt _ (show 0 < 16 by decide))]
 omega
theorem unhexs8 (r : Nat) (h : r < 4294967296) : unhexs (hexDigits r 8) = r := by
 simp only [unhexs, hexDigits, List.foldl_cons, List.foldl_nil, unhex_hex _ (Nat.mod_lt _ (show 0 < 16 by decide))]
 omega
def unesc (x : Int) : Int := if x = 97 then 7 else if x = 98 then 8 else if x = 102 then 12 else if x = 110 then 10 else if x = 114 then 13 else if x = 116 then 9 else if x = 118 then 11 else x
def dPiece (l : List Int) : List Int × Nat :=
 if l.getD 0 0 = 92 then
  if l.getD 1 0 = 120 then ([unhexs ((l.drop 2).take 2)], 4)
  else if l.getD 1 0 = 117 then (encodeRuneZ (unhexs ((l.drop 2).take 4)), 6)
  else if l.getD 1 0 = 85 then (encodeRuneZ (unhexs ((l.drop 2).take 8)), 10)
  else ([unesc (l.getD 1 0)], 2)
 else if l.getD 0 0 < 128 then (l.take 1, 1)
 else if l.getD 0 0 < 224 then (l.take 2, 2)
 else if l.getD 0 0 < 240 then (l.take 3, 3)
 else (l.take 4, 4)
theorem d_enc (r : Int) (h : 0 ≤ r) (h1 : r ≤ 1114111) (hv : r < 55296 ∨ 57343 < r) (n1 : r ≠ 92) (rest : List Int) : dPiece (encodeRuneZ r ++ rest) = (encodeRuneZ r, (encodeRuneZ r).length) := by
 by_cases a1 : r ≤ 127
 ·rw [encodeRuneZ_one h a1]
  unfold dPiece
  rw [if_neg (by simpa using n1), if_pos (by show r < 128; omega)]
  rfl
 by_cases a2 : r ≤ 2047
 ·rw [encodeRuneZ_two (by omega) a2]
  unfold dPiece
  rw [if_neg (by show ¬ 192 + r / 64 = 92; omega), if_neg (by show ¬ 192 + r / 64 < 128; omega), if_pos (by show 192 + r / 64 < 224; omega)]
  rfl
 by_cases a3 : r ≤ 65535
 ·rw [encodeRuneZ_three (by omega)]
  unfold dPiece
  rw [if_neg (by show ¬ 224 + r / 4096 = 92; omega), if_neg (by show ¬ 224 + r / 4096 < 128; omega), if_neg (by show ¬ 224 + r / 4096 < 224; omega), if_pos (by show 224 + r / 4096 < 240; omega)]
  rfl
 ·rw [encodeRuneZ_four (by omega) h1]
  unfold dPiece
  rw [if_neg (by show ¬ 240 + r / 262144 = 92; omega), if_neg (by show ¬ 240 + r / 262144 < 128; omega), if_neg (by show ¬ 240 + r / 262144 < 224; omega), if_neg (by show ¬ 240 + r / 262144 < 240; omega)]
  rfl
theorem d_esc (T : PrintTabs) (r : Nat) (h1 : (r : Int) ≤ 1114111) (hv : (r : Int) < 55296 ∨ 57343 < (r : Int)) (rest : List Int) : dPiece (escRune T r ++ rest) = (encodeRuneZ r, (escRune T r).length) ∧ (escRune T r).getD 0 0 ≠ 34 ∧ 0 < (escRune T r).length := by
 have hvr : Lib.validRune (r : Int) = true := by
  simp only [Lib.validRune, decide_eq_true_eq]; omega
 have e1 : ∀ k : Nat, k ≤ 127 → (r : Int) = k → encodeRuneZ (r : Int) = [(k : Int)] := fun k hk e => by rw [e]; exact encodeRuneZ_one (by omega) (by omega)
 unfold escRune
 by_cases c0 : (r : Int) = 34 ∨ (r : Int) = 92
 ·rw [if_pos c0]
  rcases c0 with c | c
  ·rw [e1 34 (by omega) c, c]; exact ⟨rfl, by decide, by decide⟩
  ·rw [e1 92 (by omega) c, c]; exact ⟨rfl, by decide, by decide⟩
 rw [if_neg c0]
 by_cases c1 : isPrintR T r = true
 ·rw [if_pos c1]
  refine ⟨d_enc r (by omega) h1 hv (fun e => c0 (.inr e)) rest, ?_, (encodeRuneZ_length r).1⟩
  unfold encodeRuneZ
  split
  ·show ¬ (r : Int) = 34; exact fun e => c0 (.inl e)
  split
  ·show ¬ 192 + (r : Int) / 64 = 34; omega
  split
  ·show ¬ 224 + (r : Int) / 4096 = 34; omega
  split
  ·show ¬ 240 + (r : Int) / 262144 = 34; omega
  ·decide
 rw [if_neg c1]
 by_cases c2 : (r : Int) = 7
 ·rw [if_pos c2, e1 7 (by omega) c2]; exact ⟨rfl, by decide, by decide⟩
 rw [if_neg c2]
 by_cases c3 : (r : Int) = 8
 ·rw [if_pos c3, e1 8 (by omega) c3]; exact ⟨rfl, by decide, by decide⟩
 rw [if_neg c3]
 by_cases c4 : (r : Int) = 12
 ·rw [if_pos c4, e1 12 (by omega) c4]; exact ⟨rfl, by decide, by decide⟩
 rw [if_neg c4]
 by_cases c5 : (r : Int) = 10
 ·rw [if_pos c5, e1 10 (by omega) c5]; exact ⟨rfl, by decide, by decide⟩
 rw [if_neg c5]
 by_cases c6 : (r : Int) = 13
 ·rw [if_pos c6, e1 13 (by omega) c6]; exact ⟨rfl, by decide, by decide⟩
 rw [if_neg c6]
 by_cases c7 : (r : Int) = 9
 ·rw [if_pos c7, e1 9 (by omega) c7]; exact ⟨rfl, by decide, by decide⟩
 rw [if_neg c7]
 by_cases c8 : (r : Int) = 11
 ·rw [if_pos c8, e1 11 (by omega) c8]; exact ⟨rfl, by decide, by decide⟩
 rw [if_neg c8]
 by_cases c9 : (r : Int) < 32 ∨ (r : Int) = 127
 ·rw [if_pos c9, e1 r (by omega) rfl, Int.toNat_natCast]
  refine ⟨?_, by show (92 : Int) ≠ 34; omega, Nat.succ_pos _⟩
  show ([unhexs [Lib.hexDigit (r / 16), Lib.hexDigit (r % 16)]], 4) = _
  simp only [unhexs, List.foldl_cons, List.foldl_nil, unhex_hex _ (show r / 16 < 16 by omega), unhex_hex _ (show r % 16 < 16 by omega)]
  refine Prod.ext ?_ rfl
  show [16 * (16 * 0 + ((r / 16 : Nat) : Int)) + ((r % 16 : Nat) : Int)] = [(r : Int)]
  exact congrArg (fun x : Int => [x]) (by omega)
 rw [if_neg c9, if_neg (by rw [hvr]; decide)]
 by_cases c10 : (r : Int) < 65536
 ·rw [if_pos c10, Int.toNat_natCast]
  refine ⟨?_, by show (92 : Int) ≠ 34; omega, Nat.succ_pos _⟩
  have e : dPiece (92 :: 117 :: hexDigits r 4 ++ rest) = (encodeRuneZ (unhexs (hexDigits r 4)), 6) := rfl
  rw [e, unhexs4 r (by omega)]
  rfl
 ·rw [if_neg c10, Int.toNat_natCast]
  refine ⟨?_, by show (92 : Int) ≠ 34; omega, Nat.succ_pos _⟩
  have e : dPiece (92 :: 85 :: hexDigits r 8 ++ rest) = (encodeRuneZ (unhexs (hexDigits r 8)), 10) := rfl
  rw [e, unhexs8 r (by omega)]
  rfl
theorem d_step (T : PrintTabs) (s : ByteArray) (h0 : 0 < s.size) (rest : List Int) : ∃ l, bI s.data.toList = l ++ bI (s.extract (Utf8.decode s 0).2 s.size).data.toList ∧ dPiece (quoteStep T s ++ rest) = (l, (quoteStep T s).length) ∧ (quoteStep T s).getD 0 0 ≠ 34 ∧ 0 < (quoteStep T s).length := by
 by_cases hg : (Utf8.decode s 0).2 = 1 ∧ (Utf8.decode s 0).1 = 65533
 ·have e : quoteStep T s = [92, 120, Lib.hexDigit ((s.get! 0).toNat / 16), Lib.hexDigit ((s.get! 0).toNat % 16)] := by unfold quoteStep; rw [if_pos hg]
  rw [e, hg.1]
  have t := (s.get! 0).toNat_lt
  refine ⟨[((s.get! 0).toNat : Int)], ?_, ?_, by show (92 : Int) ≠ 34; omega, Nat.succ_pos _⟩
  ·rw [extract_list, qget_at]
   have hsz : s.size = s.data.toList.length := by show s.data.size = _; rw [Array.length_toList]
   rw [hsz] at h0
   generalize s.data.toList = L at h0
   cases L with
   | nil => simp at h0
   | cons a l => rfl
  ·show ([unhexs [Lib.hexDigit ((s.get! 0).toNat / 16), Lib.hexDigit ((s.get! 0).toNat % 16)]], 4) = _
   simp only [unhexs, List.foldl_cons, List.foldl_nil, unhex_hex _ (show (s.get! 0).toNat / 16 < 16 by omega), unhex_hex _ (show (s.get! 0).toNat % 16 < 16 by omega)]
   refine Prod.ext ?_ rfl
   show [16 * (16 * 0 + (((s.get! 0).toNat / 16 : Nat) : Int)) + (((s.get! 0).toNat % 16 : Nat) : Int)] = [((s.get! 0).toNat : Int)]
   congr 1; omega
 ·rw [quoteStep_good T s hg]
  have hv := rune_valid s
  simp only [Lib.validRune, decide_eq_true_eq] at hv
  obtain ⟨a, b, c⟩ := d_esc T (Utf8.decode s 0).1 (by omega) (by omega) rest
  exact ⟨_, dec_enc s h0 hg, a, b, c⟩
theorem quote_inj (T : PrintTabs) : ∀ (n f g : Nat) (s t : ByteArray) (r q : List Int), s.size ≤ n → s.size ≤ f → t.size ≤ g → quoteFrom T f s ++ 34 :: r = quoteFrom T g t ++ 34 :: q → s = t ∧ r = q := by
 intro n
 induction n with
 | zero =>
  intro f g s t r q hn hf hg h
  have hs : ¬ 0 < s.size := by omega
  rw [quoteFrom_end T f s hs] at h
  by_cases ht : 0 < t.size
  ·rw [quoteFrom_step T g t ht hg, List.append_assoc] at h
   obtain ⟨l, -, -, h3, h4⟩ := d_step T t ht []
   cases hq : quoteStep T t with
   | nil => rw [hq] at h4; simp at h4
   | cons a m =>
    rw [hq] at h h3
    simp at h h3
    exact absurd h.1.symm h3
  ·rw [quoteFrom_end T g t ht] at h
   refine ⟨?_, by simpa using h⟩
   apply ByteArray.ext
   have a : s.data.size = 0 := by show s.size = 0; omega
   have b : t.data.size = 0 := by show t.size = 0; omega
   rw [Array.eq_empty_of_size_eq_zero a, Array.eq_empty_of_size_eq_zero b]
 | succ n ih =>
  intro f g s t r q hn hf hg h
  by_cases hs : 0 < s.size
  ·rw [quoteFrom_step T f s hs hf, List.append_assoc] at h
   by_cases ht : 0 < t.size
   ·rw [quoteFrom_step T g t ht hg, List.append_assoc] at h
    obtain ⟨l, a1, a2, -, -⟩ := d_step T s hs (quoteFrom T (f - 1) (s.extract (Utf8.decode s 0).2 s.size) ++ 34 :: r)
    obtain ⟨m, b1, b2, -, -⟩ := d_step T t ht (quoteFrom T (g - 1) (t.extract (Utf8.decode t 0).2 t.size) ++ 34 :: q)
    rw [← h, a2] at b2
    have e1 : l = m := congrArg Prod.fst b2
    have e2 : (quoteStep T s).length = (quoteStep T t).length := congrArg Prod.snd b2
    obtain ⟨-, h5⟩ := List.append_inj h e2
    have w1 := width_pos s 0
    have w2 := width_pos t 0
    have w3 := width_le s hs
    have w4 := width_le t ht
    obtain ⟨i1, i2⟩ := ih (f - 1) (g - 1) _ _ r q (by rw [size_rest]; omega) (by rw [size_rest]; omega) (by rw [size_rest]; omega) h5
    refine ⟨?_, i2⟩
    rw [i1, e1, ← b1] at a1
    have := bI_inj a1
    apply ByteArray.ext
    exact Array.toList_inj.1 this
   ·rw [quoteFrom_end T g t ht] at h
    obtain ⟨l, -, -, h3, h4⟩ := d_step T s hs []
    cases hq : quoteStep T s with
    | nil => rw [hq] at h4; simp at h4
    | cons a m =>
     rw [hq] at h h3
     simp at h h3
     exact absurd h.1 h3
  ·exact ih f g s t r q (by omega) hf hg h
theorem quoteZ_inj (T : PrintTabs) (s t : ByteArray) (r q : List Int) (h : quoteZ T s ++ r = quoteZ T t ++ q) : s = t ∧ r = q := by
 have h2 : 34 :: (quoteFrom T s.size s ++ 34 :: r) = 34 :: (quoteFrom T t.size t ++ 34 :: q) := by
  have a : ∀ (u : ByteArray) (x : List Int), quoteZ T u ++ x = 34 :: (quoteFrom T u.size u ++ 34 :: x) := fun u x => by unfold quoteZ; rw [List.cons_append, List.append_assoc, List.singleton_append]
  rw [← a, ← a]; exact h
 exact quote_inj T s.size s.size t.size s t r q (Nat.le_refl _) (Nat.le_refl _) (Nat.le_refl _) (List.cons.inj h2).2
theorem hex_byte (x : Nat) (h : x < 16) : 0 ≤ Lib.hexDigit x ∧ Lib.hexDigit x < 256 := by unfold Lib.hexDigit; split <;> omega
theorem hexs_byte (r n : Nat) : ∀ x ∈ hexDigits r n, 0 ≤ x ∧ x < 256 := by
 induction n with
 | zero => intro x hx; simp [hexDigits] at hx
 | succ n ih =>
  intro x hx
  rcases List.mem_cons.1 hx with rfl | hx
  ·exact hex_byte _ (Nat.mod_lt _ (by decide))
  ·exact ih x hx
def Byt (l : List Int) : Prop := ∀ x ∈ l, 0 ≤ x ∧ x < 256
theorem byt_ite {c : Prop} [Decidable c] {a b : List Int} (h : c → Byt a) (k : ¬ c → Byt b) : Byt (if c then a else b) := by
 by_cases hc : c
 ·rw [if_pos hc]; exact h hc
 ·rw [if_neg hc]; exact k hc
theorem byt_cons {a : Int} {l : List Int} (h : 0 ≤ a ∧ a < 256) (k : Byt l) : Byt (a :: l) := fun x hx => by
 rcases List.mem_cons.1 hx with rfl | hx
 ·exact h
 ·exact k x hx
theorem byt_nil : Byt [] := fun x hx => by cases hx
theorem esc_byte (T : PrintTabs) (r : Nat) : Byt (escRune T r) := by
 have lit : ∀ a : Int, 0 ≤ a ∧ a < 256 → Byt [92, a] := fun a h => byt_cons (by omega) (byt_cons h byt_nil)
 unfold escRune
 refine byt_ite (fun c => lit _ (by omega)) fun _ => ?_
 refine byt_ite (fun c => encodeRuneZ_byte r) fun _ => ?_
 refine byt_ite (fun c => lit _ (by omega)) fun _ => ?_
 refine byt_ite (fun c => lit _ (by omega)) fun _ => ?_
 refine byt_ite (fun c => lit _ (by omega)) fun _ => ?_
 refine byt_ite (fun c => lit _ (by omega)) fun _ => ?_
 refine byt_ite (fun c => lit _ (by omega)) fun _ => ?_
 refine byt_ite (fun c => lit _ (by omega)) fun _ => ?_
 refine byt_ite (fun c => lit _ (by omega)) fun _ => ?_
 refine byt_ite (fun c => byt_cons (by omega) (byt_cons (by omega) (byt_cons (hex_byte _ (by omega)) (byt_cons (hex_byte _ (by omega)) byt_nil)))) fun _ => ?_
 refine byt_ite (fun c => byt_cons (by omega) (byt_cons (by omega) (hexs_byte _ _))) fun _ => ?_
 exact byt_ite (fun c => byt_cons (by omega) (byt_cons (by omega) (hexs_byte _ _))) fun _ => byt_cons (by omega) (byt_cons (by omega) (hexs_byte _ _))
theorem quote_byte (T : PrintTabs) : ∀ (f : Nat) (s : ByteArray), ∀ x ∈ quoteFrom T f s, 0 ≤ x ∧ x < 256 := by
 intro f
 induction f with
 | zero => intro s x hx; simp [quoteFrom] at hx
 | succ f ih =>
  intro s x hx
  unfold quoteFrom at hx
  split at hx
  ·rcases List.mem_append.1 hx with hx | hx
   ·unfold quoteStep at hx
    split at hx
    ·have t := (s.get! 0).toNat_lt
     have a := hex_byte ((s.get! 0).toNat / 16) (by omega)
     have b := hex_byte ((s.get! 0).toNat % 16) (by omega)
     simp only [List.mem_cons, List.not_mem_nil, or_false] at hx
     rcases hx with rfl | rfl | rfl | rfl
     ·omega
     ·omega
     ·exact a
     ·exact b
    ·exact esc_byte T _ x hx
   ·exact ih _ x hx
  ·simp at hx
theorem quoteZ_byte (T : PrintTabs) (s : ByteArray) : ∀ x ∈ quoteZ T s, 0 ≤ x ∧ x < 256 := by
 intro x hx
 unfold quoteZ at hx
 rcases List.mem_cons.1 hx with rfl | hx
 ·omega
 rcases List.mem_append.1 hx with hx | hx
 ·exact quote_byte T _ s x hx
 ·rw [List.mem_singleton.1 hx]; omega
theorem bI_quoT (T : PrintTabs) (s : ByteArray) : bI (quoT T s) = quoteZ T s := by
 unfold quoT bI
 rw [List.map_map]
 conv => rhs; rw [← List.map_id (quoteZ T s)]
 refine List.map_congr_left fun x hx => ?_
 have := quoteZ_byte T s x hx
 show (((UInt8.ofNat x.toNat).toNat : Nat) : Int) = x
 have e : (UInt8.ofNat x.toNat).toNat = x.toNat % 256 := rfl
 rw [e]; omega
theorem quoT_inj (T : PrintTabs) (s t : ByteArray) (r q : List UInt8) (h : quoT T s ++ r = quoT T t ++ q) : s = t ∧ r = q := by
 have h2 := congrArg bI h
 rw [bI_append, bI_append, bI_quoT, bI_quoT] at h2
 obtain ⟨a, b⟩ := quoteZ_inj T s t _ _ h2
 exact ⟨a, bI_inj b⟩
theorem quoT_head (T : PrintTabs) (s : ByteArray) : ∃ r, quoT T s = 34 :: r := ⟨_, rfl⟩
end Go.Proofs.YtaenebdppkjhoaaGreatDoor
namespace Go.Proofs.YtaenebdppkjhoaaGreatDoor
set_option maxRecDepth 20000
theorem kept_canon {x : Nat} (hx : x < 2 ^ 64) : Kept (canonB x) := by
 by_cases hn : isNum x
 ·rw [canon_num2 hx hn]
  unfold isNum rungB at hn
  unfold rungB
  split
  ·exact ⟨by omega, fun h => by omega, fun _ => rfl⟩
  ·exact ⟨hx, fun h1 h2 => by omega, fun h => by omega⟩
 ·have hf : fEq x x = false := by rw [Bool.eq_false_iff]; exact fun h => hn (fEq_num.1 h)
  unfold canonB
  rw [hf, if_neg (by decide)]
  exact ⟨by decide, fun _ _ => rfl, fun h => absurd h (by decide)⟩
def Ends (r : List UInt8) : Prop := r = [] ∨ ∃ q, r = 32 :: q
theorem ends_blank (r : List UInt8) : Ends (32 :: r) := .inr ⟨r, rfl⟩
theorem word_inj {a b r q : List UInt8} (ha : ∀ c ∈ a, c ≠ 32) (hb : ∀ c ∈ b, c ≠ 32) (hr : Ends r) (hq : Ends q) (h : a ++ r = b ++ q) : a = b ∧ r = q := by
 have key : ∀ {l x : List UInt8}, (∀ c ∈ l, c ≠ 32) → Ends x → (l ++ x).takeWhile (· != 32) = l ∧ (l ++ x).dropWhile (· != 32) = x := by
  intro l x hl hx
  have hl' : ∀ c ∈ l, (c != 32) = true := fun c hc => by rw [bne_iff_ne]; exact hl c hc
  rw [List.takeWhile_append_of_pos hl', List.dropWhile_append_of_pos hl']
  rcases hx with rfl | ⟨y, rfl⟩
  ·exact ⟨List.append_nil _, rfl⟩
  ·exact ⟨List.append_nil _, rfl⟩
 have k1 := key ha hr
 have k2 := key hb hq
 rw [h] at k1
 exact ⟨k1.1.symm.trans k2.1, k1.2.symm.trans k2.2⟩
theorem name_chars {s : ByteArray} (h : isName s = true) : (∀ c ∈ s.data.toList, (97 ≤ c.toNat ∧ c.toNat ≤ 122) ∨ (48 ≤ c.toNat ∧ c.toNat ≤ 57)) ∧ ∃ c r, s.data.toList = c :: r ∧ 97 ≤ c.toNat ∧ c.toNat ≤ 122 := by
 unfold isName at h
 rw [Bool.and_eq_true, Bool.and_eq_true, List.all_eq_true] at h
 obtain ⟨h1, h2, -⟩ := h
 have at_ : ∀ (i : Nat) (c : UInt8), s.data.toList[i]? = some c → nameAt i c = true := fun i c hc => h1 (c, i) (List.mk_mem_zipIdx_iff_getElem?.2 hc)
 constructor
 ·intro c hc
  obtain ⟨i, hi⟩ := List.getElem?_of_mem hc
  have := at_ i c hi
  unfold nameAt at this
  simp only [Bool.or_eq_true, Bool.and_eq_true, decide_eq_true_eq] at this
  omega
 ·cases hl : s.data.toList with
  | nil =>
   have hz : s.size = 0 := by show s.data.size = 0; rw [← Array.length_toList, hl]; rfl
   rw [hz] at h2
   simp at h2
  | cons c r =>
   have := at_ 0 c (by rw [hl]; rfl)
   unfold nameAt at this
   simp only [Bool.or_eq_true, Bool.and_eq_true, decide_eq_true_eq, Nat.lt_irrefl, false_and, or_false] at this
   exact ⟨c, r, rfl, this⟩
theorem name_word {s : ByteArray} (h : isName s = true) : ∀ c ∈ s.data.toList, c ≠ 32 := by
 intro c hc e
 subst e
 have := (name_chars h).1 32 hc
 revert this; decide
theorem list_eq {s t : ByteArray} (h : s.data.toList = t.data.toList) : s = t := ByteArray.ext (Array.toList_inj.1 h)
theorem itoa_tok (n : Int) : (∀ c ∈ Lib.itoa n, isDig c ∨ c = 45) ∧ ∃ c r, Lib.itoa n = c :: r := by
 unfold Lib.itoa
 split
 ·refine ⟨fun c hc => ?_, _, _, rfl⟩
  rcases List.mem_cons.1 hc with rfl | hc
  ·exact .inr rfl
  ·exact .inl ((dec_is _).2.1 c hc)
 ·refine ⟨fun c hc => .inl ((dec_is _).2.1 c hc), ?_⟩
  cases hd : Lib.decDigits n.toNat with
  | nil => exact absurd hd (dec_is _).2.2.2
  | cons c r => exact ⟨c, r, rfl⟩
theorem dec_inj {a b : Nat} (h : Lib.decDigits a = Lib.decDigits b) : a = b := by
 rw [← (dec_is a).1, ← (dec_is b).1, h]
theorem itoa_inj {a b : Int} (h : Lib.itoa a = Lib.itoa b) : a = b := by
 have hd : ∀ (u : Nat) (r : List UInt8), Lib.decDigits u ≠ 45 :: r := fun u r e => by
  have := (dec_is u).2.1 45 (by rw [e]; exact List.mem_cons_self)
  unfold isDig at this
  revert this; decide
 unfold Lib.itoa at h
 split at h <;> split at h
 ·have := dec_inj (List.cons.inj h).2; omega
 ·exact absurd h.symm (hd _ _)
 ·exact absurd h (hd _ _)
 ·have := dec_inj h; omega
theorem val_word {v : V} (hk : v.kind ≠ 2) : (∀ c ∈ v.prt, c ≠ 32) ∧ ∃ c r, v.prt = c :: r ∧ c ≠ 34 := by
 unfold V.prt
 by_cases h0 : v.kind = 0
 ·rw [if_pos h0]
  obtain ⟨h1, c, r, h2⟩ := itoa_tok v.int
  refine ⟨fun c hc e => ?_, c, r, h2, fun e => ?_⟩
  ·subst e
   rcases h1 32 hc with h | h
   ·unfold isDig at h; revert h; decide
   ·revert h; decide
  ·subst e
   rcases h1 34 (by rw [h2]; exact List.mem_cons_self) with h | h
   ·unfold isDig at h; revert h; decide
   ·revert h; decide
 rw [if_neg h0]
 by_cases h1 : v.kind = 1
 ·rw [if_pos h1]
  obtain ⟨⟨c, r, h2⟩, h3, -, -⟩ := numT_tok (canonB v.num)
  refine ⟨fun c hc e => ?_, c, r, h2, fun e => ?_⟩
  ·subst e; have := h3 32 hc; unfold isTok at this; revert this; decide
  ·subst e; have := h3 34 (by rw [h2]; exact List.mem_cons_self); unfold isTok at this; revert this; decide
 rw [if_neg h1, if_neg hk]
 split
 ·exact ⟨by decide, _, _, rfl, by decide⟩
 ·exact ⟨by decide, _, _, rfl, by decide⟩
theorem vprt_inj {u v : V} {r q : List UInt8} (hu : u.right = true) (hv : v.right = true) (nu : u.num < 2 ^ 64) (nv : v.num < 2 ^ 64) (cu : u.canon = u) (cv : v.canon = v) (hr : Ends r) (hq : Ends q) (h : u.prt ++ r = v.prt ++ q) : u = v ∧ r = q := by
 have kr : ∀ {x : V}, x.right = true → x.kind = 0 ∨ x.kind = 1 ∨ x.kind = 2 ∨ x.kind = 3 := by
  intro x hx
  unfold V.right at hx
  simp only [Bool.and_eq_true, decide_eq_true_eq] at hx
  omega
 have q2 : ∀ {x : V}, x.kind = 2 → x.prt = quoT Lib.goPrintTabs x.text := fun h => by unfold V.prt; rw [if_neg (by omega), if_neg (by omega), if_pos h]
 have p0 : ∀ {x : V}, x.kind = 0 → x.prt = Lib.itoa x.int := fun h => by unfold V.prt; rw [if_pos h]
 have p1 : ∀ {x : V}, x.kind = 1 → x.prt = numT (canonB x.num) := fun h => by unfold V.prt; rw [if_neg (by omega), if_pos h]
 have p3 : ∀ {x : V}, x.kind = 3 → x.prt = if x.yes then [121, 101, 115] else [110, 111] := fun h => by unfold V.prt; rw [if_neg (by omega), if_neg (by omega), if_neg (by omega)]
 have c0 : ∀ {x : V}, x.canon = x → x.kind = 0 → x = { V.zero with kind := 0, int := x.int } := fun h e => by
  conv => lhs; rw [← h]
  unfold V.canon; rw [if_pos e]
 have c1 : ∀ {x : V}, x.canon = x → x.kind = 1 → x = { V.zero with kind := 1, num := canonB x.num } := fun h e => by
  conv => lhs; rw [← h]
  unfold V.canon; rw [if_neg (by omega), if_pos e]
 have c2 : ∀ {x : V}, x.canon = x → x.kind = 2 → x = { V.zero with kind := 2, text := x.text } := fun h e => by
  conv => lhs; rw [← h]
  unfold V.canon; rw [if_neg (by omega), if_neg (by omega), if_pos e]
 have c3 : ∀ {x : V}, x.canon = x → x.kind = 3 → x = { V.zero with kind := 3, yes := x.yes } := fun h e => by
  conv => lhs; rw [← h]
  unfold V.canon; rw [if_neg (by omega), if_neg (by omega), if_neg (by omega), if_pos e]
 by_cases hk : u.kind = 2 <;> by_cases hl : v.kind = 2
 ·rw [q2 hk, q2 hl] at h
  obtain ⟨h1, h2⟩ := quoT_inj _ _ _ _ _ h
  refine ⟨?_, h2⟩
  rw [c2 cu hk, c2 cv hl, h1]
 ·exfalso
  obtain ⟨-, c, x, h1, h2⟩ := val_word hl
  rw [q2 hk, h1] at h
  obtain ⟨y, hy⟩ := quoT_head Lib.goPrintTabs u.text
  rw [hy] at h
  exact h2 (List.cons.inj h).1.symm
 ·exfalso
  obtain ⟨-, c, x, h1, h2⟩ := val_word hk
  rw [q2 hl, h1] at h
  obtain ⟨y, hy⟩ := quoT_head Lib.goPrintTabs v.text
  rw [hy] at h
  exact h2 (List.cons.inj h).1
 ·obtain ⟨he, hrq⟩ := word_inj (val_word hk).1 (val_word hl).1 hr hq h
  refine ⟨?_, hrq⟩
  clear h
  -- an int's text shows no number, nor yes or no
  have i1 : ∀ {x y : V}, x.kind = 0 → y.kind = 1 → x.prt ≠ y.prt := by
   intro x y hx hy e
   rw [p0 hx, p1 hy] at e
   have hs := (numT_tok (canonB y.num)).2.2.2
   rw [← e] at hs
   unfold spec at hs
   rw [List.any_eq_true] at hs
   obtain ⟨c, hc, hcs⟩ := hs
   simp only [Bool.or_eq_true, beq_iff_eq] at hcs
   rcases (itoa_tok x.int).1 c hc with hd | hd
   ·unfold isDig at hd
    rcases hcs with ((rfl | rfl) | rfl) | rfl <;> revert hd <;> decide
   ·subst hd
    revert hcs; decide
  have i3 : ∀ {x y : V}, x.kind = 0 → y.kind = 3 → x.prt ≠ y.prt := by
   intro x y hx hy e
   rw [p0 hx, p3 hy] at e
   have : ∀ c, c ∈ (if y.yes = true then ([121, 101, 115] : List UInt8) else [110, 111]) → isDig c ∨ c = 45 := fun c hc => (itoa_tok x.int).1 c (by rw [e]; exact hc)
   cases hy : y.yes
   ·rw [hy] at this
    have := this 110 (by decide)
    unfold isDig at this; revert this; decide
   ·rw [hy] at this
    have := this 121 (by decide)
    unfold isDig at this; revert this; decide
  have n3 : ∀ {x y : V}, x.kind = 1 → y.kind = 3 → x.prt ≠ y.prt := by
   intro x y hx hy e
   rw [p1 hx, p3 hy] at e
   obtain ⟨-, h1, h2, -⟩ := numT_tok (canonB x.num)
   rw [e] at h1 h2
   cases hy : y.yes
   ·rw [hy] at h2
    exact h2 _ rfl
   ·rw [hy] at h1
    have := h1 121 (by decide)
    unfold isTok at this; revert this; decide
  rcases kr hu with a | a | a | a <;> rcases kr hv with b | b | b | b
  ·rw [c0 cu a, c0 cv b]
   rw [p0 a, p0 b] at he
   rw [itoa_inj he]
  ·exact absurd he (i1 a b)
  ·exact absurd b hl
  ·exact absurd he (i3 a b)
  ·exact absurd he.symm (i1 b a)
  ·rw [c1 cu a, c1 cv b]
   rw [p1 a, p1 b] at he
   rw [numT_inj (kept_canon nu) (kept_canon nv) he]
  ·exact absurd b hl
  ·exact absurd he (n3 a b)
  ·exact absurd a hk
  ·exact absurd a hk
  ·exact absurd a hk
  ·exact absurd a hk
  ·exact absurd he.symm (i3 b a)
  ·exact absurd he.symm (n3 b a)
  ·exact absurd b hl
  ·rw [c3 cu a, c3 cv b]
   rw [p3 a, p3 b] at he
   have : u.yes = v.yes := by
    cases hx : u.yes <;> cases hy : v.yes <;> rw [hx, hy] at he <;> first | rfl | (exfalso; revert he; decide)
   rw [this]
theorem op_cases {o : Int} (h : 0 ≤ o ∧ o ≤ 7) (h7 : o ≠ 7) : o = 0 ∨ o = 1 ∨ o = 2 ∨ o = 3 ∨ o = 4 ∨ o = 5 ∨ o = 6 := by omega
theorem word_op {o p : Int} (h : 0 ≤ o ∧ o ≤ 7) (k : 0 ≤ p ∧ p ≤ 7) (e : wordT o = wordT p) : o = p := by
 have a : ∀ x : Int, 0 ≤ x ∧ x ≤ 7 → x = 0 ∨ x = 1 ∨ x = 2 ∨ x = 3 ∨ x = 4 ∨ x = 5 ∨ x = 6 ∨ x = 7 := fun x hx => by omega
 rcases a o h with rfl | rfl | rfl | rfl | rfl | rfl | rfl | rfl <;> rcases a p k with rfl | rfl | rfl | rfl | rfl | rfl | rfl | rfl <;> first | rfl | (exfalso; revert e; decide)
theorem word_word {o : Int} (h : 0 ≤ o ∧ o ≤ 7) : ∀ c ∈ wordT o, c ≠ 32 := by
 have a : o = 0 ∨ o = 1 ∨ o = 2 ∨ o = 3 ∨ o = 4 ∨ o = 5 ∨ o = 6 ∨ o = 7 := by omega
 rcases a with rfl | rfl | rfl | rfl | rfl | rfl | rfl | rfl <;> decide
theorem word_head {o : Int} (h : 0 ≤ o ∧ o ≤ 7) (h7 : o ≠ 7) : ∃ c r, wordT o = c :: r ∧ (c.toNat < 97 ∧ (c.toNat < 48 ∨ 57 < c.toNat)) := by
 rcases op_cases h h7 with rfl | rfl | rfl | rfl | rfl | rfl | rfl
 all_goals exact ⟨_, _, rfl, by decide⟩
theorem prt_inj {c d : Cnd} {r q : List UInt8} (hc : c.fine) (hd : d.fine) (hr : Ends r) (hq : Ends q) (h : c.prt ++ r = d.prt ++ q) : c = d ∧ r = q := by
 have eh : ∀ {x : Cnd}, x.fine → x.op = 7 → x = ⟨x.name, 7, V.zero⟩ := fun hx e => by
  conv => lhs; rw [← hx.is]
  unfold Cnd.norm; rw [if_pos e]
 have en : ∀ {x : Cnd}, x.fine → x.op ≠ 7 → x = ⟨x.name, x.op, x.v.canon⟩ := fun hx e => by
  conv => lhs; rw [← hx.is]
  unfold Cnd.norm; rw [if_neg e]
 have mix : ∀ {x y : Cnd} {a b : List UInt8}, x.fine → y.fine → x.op = 7 → y.op ≠ 7 → x.prt ++ a ≠ y.prt ++ b := by
  intro x y a b hx hy e f g
  unfold Cnd.prt at g
  rw [if_pos e, if_neg f] at g
  have g2 : [104, 97, 115] ++ (32 :: (x.name.data.toList ++ a)) = y.name.data.toList ++ (32 :: (wordT y.op ++ (32 :: (y.v.prt ++ b)))) := by
   simpa [List.append_assoc] using g
  obtain ⟨-, h2⟩ := word_inj (by decide) (name_word hy.name) (ends_blank _) (ends_blank _) g2
  have h3 := (List.cons.inj h2).2
  obtain ⟨c1, r1, h4, h5⟩ := (name_chars hx.name).2
  obtain ⟨c2, r2, h6, h7⟩ := word_head hy.op f
  rw [h4, h6] at h3
  have := (List.cons.inj h3).1
  subst this
  omega
 by_cases e : c.op = 7 <;> by_cases f : d.op = 7
 ·unfold Cnd.prt at h
  rw [if_pos e, if_pos f, List.append_assoc, List.append_assoc] at h
  obtain ⟨h1, h2⟩ := word_inj (name_word hc.name) (name_word hd.name) hr hq (List.append_cancel_left h)
  exact ⟨by rw [eh hc e, eh hd f, list_eq h1], h2⟩
 ·exact absurd h (mix hc hd e f)
 ·exact absurd h.symm (mix hd hc f e)
 ·unfold Cnd.prt at h
  rw [if_neg e, if_neg f] at h
  have g2 : c.name.data.toList ++ (32 :: (wordT c.op ++ (32 :: (c.v.prt ++ r)))) = d.name.data.toList ++ (32 :: (wordT d.op ++ (32 :: (d.v.prt ++ q)))) := by
   simpa [List.append_assoc] using h
  obtain ⟨h1, h2⟩ := word_inj (name_word hc.name) (name_word hd.name) (ends_blank _) (ends_blank _) g2
  obtain ⟨h3, h4⟩ := word_inj (word_word hc.op) (word_word hd.op) (ends_blank _) (ends_blank _) (List.cons.inj h2).2
  have cc : c.v.canon = c.v := by
   have := en hc e
   have := congrArg Cnd.v this
   exact this.symm
  have cd : d.v.canon = d.v := by
   have := en hd f
   have := congrArg Cnd.v this
   exact this.symm
  obtain ⟨h5, h6⟩ := vprt_inj hc.v hd.v hc.num hd.num cc cd hr hq (List.cons.inj h4).2
  refine ⟨?_, h6⟩
  have h7 := word_op hc.op hd.op h3
  have h8 := list_eq h1
  clear h h1 h2 h3 h4 g2 cc cd eh en mix e f hc hd
  cases c; cases d
  simp only at h5 h7 h8
  rw [h5, h7, h8]
theorem tail_ends (l : List Cnd) : Ends (tailT l) := by
 cases l with
 | nil => exact .inl rfl
 | cons c l => exact .inr ⟨_, rfl⟩
theorem tail_inj : ∀ {l m : List Cnd}, (∀ c ∈ l, c.fine) → (∀ c ∈ m, c.fine) → tailT l = tailT m → l = m := by
 intro l
 induction l with
 | nil =>
  intro m _ _ h
  cases m with
  | nil => rfl
  | cons d m => simp [tailT] at h
 | cons c l ih =>
  intro m hl hm h
  cases m with
  | nil => simp [tailT] at h
  | cons d m =>
   unfold tailT at h
   rw [List.append_assoc, List.append_assoc] at h
   obtain ⟨h1, h2⟩ := prt_inj (hl c List.mem_cons_self) (hm d List.mem_cons_self) (tail_ends l) (tail_ends m) (List.append_cancel_left h)
   rw [h1, ih (fun x hx => hl x (List.mem_cons_of_mem _ hx)) (fun x hx => hm x (List.mem_cons_of_mem _ hx)) h2]
theorem fil_inj {s t : ByteArray} {l m : List Cnd} (hs : ∀ c ∈ s.data.toList, c ≠ 58) (ht : ∀ c ∈ t.data.toList, c ≠ 58) (hl : ∀ c ∈ l, c.fine) (hm : ∀ c ∈ m, c.fine) (h : filPrt s l = filPrt t m) : s = t ∧ l = m := by
 have rest : ∀ (u : ByteArray) (k : List Cnd), filPrt u k = u.data.toList ++ 58 :: bodyF k := fun u k => by unfold filPrt; simp
 rw [rest, rest] at h
 have key : ∀ {x y : List UInt8}, (∀ c ∈ x, c ≠ 58) → (x ++ 58 :: y).takeWhile (· != 58) = x ∧ (x ++ 58 :: y).dropWhile (· != 58) = 58 :: y := by
  intro x y hx
  have hx' : ∀ c ∈ x, (c != 58) = true := fun c hc => by rw [bne_iff_ne]; exact hx c hc
  rw [List.takeWhile_append_of_pos hx', List.dropWhile_append_of_pos hx']
  exact ⟨List.append_nil _, rfl⟩
 have k1 := key (y := bodyF l) hs
 have k2 := key (y := bodyF m) ht
 rw [h] at k1
 refine ⟨list_eq (k1.1.symm.trans k2.1), ?_⟩
 have hab : bodyF l = bodyF m := (List.cons.inj (k1.2.symm.trans k2.2)).2
 cases l with
 | nil =>
  cases m with
  | nil => rfl
  | cons d m => simp [bodyF] at hab
 | cons c l =>
  cases m with
  | nil => simp [bodyF] at hab
  | cons d m =>
   have hab : [32] ++ c.prt ++ tailT l = [32] ++ d.prt ++ tailT m := hab
   rw [List.append_assoc, List.append_assoc] at hab
   obtain ⟨h1, h2⟩ := prt_inj (hl c List.mem_cons_self) (hm d List.mem_cons_self) (tail_ends l) (tail_ends m) (List.append_cancel_left hab)
   rw [h1, tail_inj (fun x hx => hl x (List.mem_cons_of_mem _ hx)) (fun x hx => hm x (List.mem_cons_of_mem _ hx)) h2]
end Go.Proofs.YtaenebdppkjhoaaGreatDoor
namespace Go.Proofs.YtaenebdppkjhoaaGreatDoor
set_option maxRecDepth 20000
open Go.RowKit
theorem cprt_len {c : Cnd} (h : c.fits) : c.prt.length ≤ 22000000 := by
 have h1 := prt_len h.v
 have h2 := h.name
 have h3 : c.name.data.toList.length = c.name.size := by rw [Array.length_toList]; rfl
 unfold Cnd.prt
 split
 ·rw [List.length_append, h3]
  simp only [List.length_cons, List.length_nil]
  omega
 ·rw [List.length_append, List.length_append, List.length_append, List.length_append, h3]
  have : (wordT c.op).length ≤ 3 := by
   unfold wordT
   repeat' split
   all_goals decide
  simp only [List.length_cons, List.length_nil]
  omega
theorem filPrt_len (sc : ByteArray) (l : List Cnd) (h : ∀ c ∈ l, c.fits) : (filPrt sc l).length ≤ sc.size + 1 + 23000000 * l.length := by
 have key : ∀ m : List Cnd, (∀ c ∈ m, c.fits) → (tailT m).length ≤ 23000000 * m.length := by
  intro m
  induction m with
  | nil => intro _; exact Nat.zero_le _
  | cons c m ih =>
   intro hm
   have h1 := ih fun x hx => hm x (List.mem_cons_of_mem _ hx)
   have h2 := cprt_len (hm c List.mem_cons_self)
   unfold tailT
   rw [List.length_append, List.length_append, List.length_cons]
   simp only [List.length_cons, List.length_nil]
   omega
 have hs : sc.data.toList.length = sc.size := by rw [Array.length_toList]; rfl
 unfold filPrt
 rw [List.length_append, List.length_append, hs]
 cases l with
 | nil => simp [bodyF]
 | cons c l =>
  have h1 := key l fun x hx => h x (List.mem_cons_of_mem _ hx)
  have h2 := cprt_len (h c List.mem_cons_self)
  unfold bodyF
  rw [List.length_append, List.length_append, List.length_cons]
  simp only [List.length_cons, List.length_nil]
  omega
end Go.Proofs.YtaenebdppkjhoaaGreatDoor
namespace Go.Proofs.YtaenebdppkjhoaaGreatDoor
set_option maxRecDepth 20000
open Go.RowKit
attribute [local go_sem ↓] run_load_cd
end Go.Proofs.YtaenebdppkjhoaaGreatDoor
namespace Go.Proofs.YtaenebdppkjhoaaGreatDoor
set_option maxRecDepth 20000
open Go.RowKit
attribute [local go_sem ↓] run_load_cd
end Go.Proofs.YtaenebdppkjhoaaGreatDoor
namespace Go.Proofs.YtaenebdppkjhoaaGreatDoor
set_option maxRecDepth 20000
open Go.RowKit
attribute [local go_sem ↓] run_load_cd
end Go.Proofs.YtaenebdppkjhoaaGreatDoor
namespace Go.Proofs.YtaenebdppkjhoaaGreatDoor
set_option maxRecDepth 20000
open Go.RowKit
theorem wpList_mput_lit {w : World} {ops : Array Oper} {rest : List Oper} {a : Act} {Q : Exit → Act → World → Prop} {d : Option Tmp} {tp : TypeId} {pos : String} {af : Array Edge} (t : TypeId) (m x v : Operand)
 (h : ∃ (kt e : TypeId) (b n : Nat) (f : Lit → Option Value) (kl : Lit), MapR w kt b n f ∧ Maps.Keyed Tryz.prog kt ∧ Tryz.prog.underlying t = some (.map kt e) ∧ n < maxLen ∧ a.eval m = .map (some b) ∧ keyOf Tryz.prog kt (a.eval x) = some kl ∧
   ∀ w', MapR w' kt b (if (f kl).isSome then n else n + 1) (putF f kl (a.eval v)) → Mod (fun k => k = b) w w' → wpList Tryz.prog ops Q rest (a.put d undef) w') :
 wpList Tryz.prog ops Q (⟨d, .mapUpdate t m x v, tp, pos, af, none⟩ :: rest) a w := by
 obtain ⟨kt, e, b, n, f, kl, h1, K, ht, hn, hm, hkey, hK⟩ := h
 refine wpList_plain rfl fun K' hK' => ?_
 obtain ⟨w', hrun, r1, r2⟩ := h1.put K ht hn hkey (a.eval v)
 unfold Oper.wp
 simp [execOp, hm, hrun, Result.andThen]
 exact hK' _ _ (hK w' r1 r2)
end Go.Proofs.YtaenebdppkjhoaaGreatDoor
