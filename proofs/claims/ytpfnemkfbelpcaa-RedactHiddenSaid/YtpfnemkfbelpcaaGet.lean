/-
  event.Get; cond.Match; filter.Match.
-/
import Derived.Test.YtpfnemkfbelpcaaHolds
import Derived.Test.YtpfnemkfbelpcaaMayp
import Derived.Test.YtpfnemkfbelpcaaCopy
namespace Go.Proofs.Ytpfnemkfbelpcaa
set_option maxRecDepth 20000
open Go.RowKit

/-- An element of what reads as attributes. -/
theorem rd_att {w : World} {a : Option Addr} {cap : Nat} {l : List Att} {j : Nat} {x : Att} (h : RdSl w 6 (.slice a l.length cap) l.length (atts l)) (hx : l[j]? = some x) : ∃ g off, a = some ⟨g, off, none⟩ ∧ CellsAt w g (off + j * 6) x.cells := by
  obtain ⟨-, a', c', h1, -, h3, h4⟩ := h
  cases h1
  cases a with
  | none => have := (List.getElem?_eq_some_iff.1 hx).1; exact absurd (h3 rfl) (by omega)
  | some b =>
    obtain ⟨g', off', h5, h6⟩ := h4 _ rfl (by have := (List.getElem?_eq_some_iff.1 hx).1; omega)
    refine ⟨g', off', by rw [h5], fun i u hu => ?_⟩
    have := h6 (6 * j + i) u (atts_at _ hx hu)
    rw [show off' + j * 6 + i = off' + (6 * j + i) by omega]
    exact this

/-- An attribute's value; whether there is one. -/
def getV (l : List Att) (s : ByteArray) : V × Bool := if there l s = true then (((l[pos l s]?).map Att.v).getD V.zero, true) else (V.zero, false)

set_option maxHeartbeats 2000000 in
theorem get_at (w : World) (sc : ByteArray) (av : Value) (l : List Att) (hv : RdSl w 6 av l.length (atts l)) (hll : l.length ≤ 1000000) (hr : rises l) (s : ByteArray) :
    Calls Try.prog 101 #[.agg #[.string sc, av], .string s] w fun e w' => e = .returned (.tuple #[.agg (getV l s).1.cells.toArray, .bool (getV l s).2]) ∧ Mod (fun _ => False) w w' := by
  obtain ⟨a, cap, rfl, hcap⟩ : ∃ a c, av = .slice a l.length c ∧ l.length ≤ c := by obtain ⟨-, a, c, h, h2, -⟩ := hv; exact ⟨a, c, h, h2⟩
  have hll' : (l.length : Int) ≤ 1000000 := by omega
  have hcap' : (l.length : Int) ≤ cap := by omega
  obtain ⟨wa, hwa⟩ : ∃ wa : World, w.alloc (.cells #[.string sc, .slice a l.length cap] 40) = wa := ⟨_, rfl⟩
  have hmwa : Mod (fun _ => False) w wa := hwa ▸ (Mod.refl (fun _ => False) w).alloc _
  have hgwa := heap_alloc_new w (.cells #[.string sc, .slice a l.length cap] 40)
  rw [hwa] at hgwa
  have hzwa : wa.heap.size = w.heap.size + 1 := by rw [← hwa]; simp
  obtain ⟨wb, hwb⟩ : ∃ wb : World, wa.alloc (.cells #[.int .i64 0, .int .i64 0, .float .f64 0, .string ⟨#[]⟩, .bool false] 46) = wb := ⟨_, rfl⟩
  have hmwb : Mod (fun _ => False) wa wb := hwb ▸ (Mod.refl (fun _ => False) wa).alloc _
  have hgwb := heap_alloc_new wa (.cells #[.int .i64 0, .int .i64 0, .float .f64 0, .string ⟨#[]⟩, .bool false] 46)
  rw [hwb] at hgwb
  have hzwb : wb.heap.size = wa.heap.size + 1 := by rw [← hwb]; simp
  have hmb := hmwa.trans hmwb (fun _ _ h => h)
  have hg := hmwb.heap hgwa (fun h => h)
  have c0 : wb.cell? ⟨w.heap.size, 0, none⟩ = some (.string sc) := cell_of hg rfl
  have c1 : wb.cell? ⟨w.heap.size, 1, none⟩ = some (.slice a l.length cap) := cell_of hg rfl
  have hvb := hv.mod hmb (fun _ _ h => h)
  have hfd := find_at wb sc (.slice a l.length cap) l hvb hll hr s
  obtain ⟨R, hR⟩ : ∃ R, getV l s = R := ⟨_, rfl⟩
  rw [hR]
  unfold getV at hR
  have hlz : w.heap.size < wa.heap.size := by omega
  have Hv := Lib.hid hv
  have Hr := Lib.hid hr
  have Hwa := Lib.hid hwa
  have Hwb := Lib.hid hwb
  have Hmb := Lib.hid hmb
  have Hvb := Lib.hid hvb
  have Hg := Lib.hid hg
  have Hgwb := Lib.hid hgwb
  have Hfd := Lib.hid hfd
  have HR := Lib.hid hR
  clear hv hr hwa hwb hmb hvb hg hgwb hfd hR hgwa hmwa hmwb hzwa hzwb
  go_enter Try.func101, Try.ntmps101
  go_wp2_with (first | (rw [show w.alloc _ = wa from Hwa.out]) | (rw [show wa.alloc _ = wb from Hwb.out]) | fail)
  refine Hfd.out.mono ?_
  rintro e w1 ⟨rfl, hm1⟩
  have hm01 := Hmb.out.trans hm1 (fun _ _ h => h)
  have hg1 := hm1.heap Hg.out (fun h => h)
  have hz1 := hm1.heap Hgwb.out (fun h => h)
  have hv1 := Hvb.out.mod hm1 (fun _ _ h => h)
  have c1 : w1.cell? ⟨w.heap.size, 1, none⟩ = some (.slice a l.length cap) := cell_of hg1 rfl
  have Hm01 := Lib.hid hm01
  have Hz1 := Lib.hid hz1
  have Hv1 := Lib.hid hv1
  clear hm01 hz1 hv1 hm1 c0 hg1 Hfd
  cases hth : there l s with
  | false =>
    have E := Lib.hid (HR.out.symm.trans (if_neg (by rw [hth]; decide)))
    have Hth := Lib.hid hth
    clear hth
    go_wp2_with (first | ((with_reducible refine wpList_store_row_lit 46 (.tmp 4) (.tmp 16) ?_); refine ⟨wa.heap.size, rfl, _, _, Hz1.out, [.int .i64 0, .int .i64 0, .float .f64 0, .string ⟨#[]⟩, .bool false], rfl, rfl, by kernel_rfl, rfl, ?_⟩; intro w6 hg6 hm6; have Hg6 := Lib.hid hg6; have Hm6 := Lib.hid hm6; clear hg6 hm6) | fail)
    refine bodyPost_ret (v := .tuple #[.agg #[.int .i64 0, .int .i64 0, .float .f64 0, .string ⟨#[]⟩, .bool false], .bool false]) ?_ rfl ⟨by rw [E.out]; rfl, Hm01.out.upon Hm6.out (fun b hb => .inr (by omega))⟩
    have hl := run_loadVar_cells (P := Try.prog) 46 wa.heap.size 0 [.int .i64 0, .int .i64 0, .float .f64 0, .string ⟨#[]⟩, .bool false] (CellsAt.row Hg6.out) (by kernel_rfl) (by kernel_rfl)
    simp [results, Try.results101, Result.andThen, asAddr, hl]
  | true =>
    have e1 := HR.out.symm.trans (if_pos hth)
    obtain ⟨x, hx⟩ : ∃ x, l[pos l s]? = some x := by
      unfold there at hth
      split at hth
      · exact ⟨_, by assumption⟩
      · cases hth
    rw [hx] at e1
    have E := Lib.hid (show R = (x.v, true) from e1)
    have hp : pos l s < l.length := (List.getElem?_eq_some_iff.1 hx).1
    obtain ⟨p, hpp⟩ : ∃ p, pos l s = p := ⟨_, rfl⟩
    rw [hpp] at hx hp ⊢
    have hp' : (p : Int) < l.length := by omega
    obtain ⟨g, off, rfl, hf⟩ : ∃ g off, a = some ⟨g, off, none⟩ ∧ CellsAt w1 g (off + p * 6) x.cells := rd_att Hv1.out hx
    have hf1 : CellsAt w1 g (off + p * 6 + 1) x.v.cells := fun j u hu => by
      have := hf (j + 1) u (by simpa [Att.cells] using hu)
      rw [show off + p * 6 + 1 + j = off + p * 6 + (j + 1) by omega]
      exact this
    have Hth := Lib.hid hth
    have Hf1 := Lib.hid hf1
    clear hf1 hth hpp hf hx e1
    go_wp2_with (first | ((with_reducible refine wpList_load_lit 46 (.tmp 21) ?_); refine ⟨g, off + p * 6 + 1, rfl, x.v.cells, Hf1.out, by kernel_rfl, by kernel_rfl, ?_⟩) | ((with_reducible refine wpList_store_row_lit 46 (.tmp 4) (.tmp 22) ?_); refine ⟨wa.heap.size, rfl, _, _, Hz1.out, x.v.cells, rfl, rfl, by kernel_rfl, rfl, ?_⟩; intro w6 hg6 hm6; have Hg6 := Lib.hid hg6; have Hm6 := Lib.hid hm6; clear hg6 hm6) | fail)
    refine bodyPost_ret (v := .tuple #[.agg x.v.cells.toArray, .bool true]) ?_ rfl ⟨by rw [E.out], Hm01.out.upon Hm6.out (fun b hb => .inr (by omega))⟩
    have hl := run_loadVar_cells (P := Try.prog) 46 wa.heap.size 0 x.v.cells (CellsAt.row Hg6.out) (by kernel_rfl) (by kernel_rfl)
    simp [results, Try.results101, Result.andThen, asAddr, hl]

theorem getV_text {l : List Att} {s : ByteArray} {n : Nat} (h : ∀ a ∈ l, a.v.text.size ≤ n) : (getV l s).1.text.size ≤ n := by
  unfold getV
  split
  · cases hx : l[pos l s]? with
    | none => exact Nat.zero_le _
    | some x => exact h x (List.mem_of_getElem? hx)
  · exact Nat.zero_le _

/-- Has an event an attribute of that name whose value does? -/
def Cnd.matchB (c : Cnd) (l : List Att) : Bool := (getV l c.name).2 && c.holds (getV l c.name).1

set_option maxHeartbeats 2000000 in
theorem cond_match (c : Cnd) (hc : c.v.text.size ≤ 9223372036854775807) (w : World) (sc : ByteArray) (av : Value) (l : List Att) (hv : RdSl w 6 av l.length (atts l)) (hll : l.length ≤ 1000000) (hr : rises l) (ht : ∀ a ∈ l, a.v.text.size ≤ 9223372036854775807) :
    Calls Try.prog 72 #[.agg c.cells.toArray, .agg #[.string sc, av]] w fun e w' => e = .returned (.bool (c.matchB l)) ∧ Mod (fun _ => False) w w' := by
  obtain ⟨a, cap, rfl, hcap⟩ : ∃ a c, av = .slice a l.length c ∧ l.length ≤ c := by obtain ⟨-, a, c, h, h2, -⟩ := hv; exact ⟨a, c, h, h2⟩
  obtain ⟨wa, hwa⟩ : ∃ wa : World, w.alloc (.cells c.cells.toArray 68) = wa := ⟨_, rfl⟩
  have hmwa : Mod (fun _ => False) w wa := hwa ▸ (Mod.refl (fun _ => False) w).alloc _
  have hgwa := heap_alloc_new w (.cells c.cells.toArray 68)
  rw [hwa] at hgwa
  have hzwa : wa.heap.size = w.heap.size + 1 := by rw [← hwa]; simp
  obtain ⟨wb, hwb⟩ : ∃ wb : World, wa.alloc (.cells #[.string sc, .slice a l.length cap] 40) = wb := ⟨_, rfl⟩
  have hmwb : Mod (fun _ => False) wa wb := hwb ▸ (Mod.refl (fun _ => False) wa).alloc _
  have hgwb := heap_alloc_new wa (.cells #[.string sc, .slice a l.length cap] 40)
  rw [hwb] at hgwb
  have hzwb : wb.heap.size = wa.heap.size + 1 := by rw [← hwb]; simp
  have hmb := hmwa.trans hmwb (fun _ _ h => h)
  have hg := hmwb.heap hgwa (fun h => h)
  have c0 : wb.cell? ⟨w.heap.size, 0, none⟩ = some (.string c.name) := cell_of hg rfl
  have d0 : wb.cell? ⟨wa.heap.size, 0, none⟩ = some (.string sc) := cell_of hgwb rfl
  have d1 : wb.cell? ⟨wa.heap.size, 1, none⟩ = some (.slice a l.length cap) := cell_of hgwb rfl
  have hge := get_at wb sc (.slice a l.length cap) l (hv.mod hmb (fun _ _ h => h)) hll hr c.name
  have hgt := getV_text (s := c.name) ht
  obtain ⟨R, hR⟩ : ∃ R, c.matchB l = R := ⟨_, rfl⟩
  rw [hR]
  unfold Cnd.matchB at hR
  obtain ⟨⟨v, b⟩, hvb⟩ : ∃ p, getV l c.name = p := ⟨_, rfl⟩
  rw [hvb] at hge hgt hR
  simp only at hge hgt hR
  have hho := holds_at c v hc hgt
  have hlz : w.heap.size < wa.heap.size := by omega
  have Hv := Lib.hid hv
  have Hr := Lib.hid hr
  have Hwa := Lib.hid hwa
  have Hwb := Lib.hid hwb
  have Hmb := Lib.hid hmb
  have Hg := Lib.hid hg
  have Hge := Lib.hid hge
  have Hgt := Lib.hid hgt
  have HR := Lib.hid hR
  have Hvb := Lib.hid hvb
  have Hho := Lib.hid hho
  clear hv hr hwa hwb hmb hg hge hgt hR hvb hho hgwa hgwb hmwa hmwb hzwa hzwb hc ht hll
  go_enter Try.func72, Try.ntmps72
  go_wp2_with (first | (rw [show w.alloc _ = wa from Hwa.out]) | (rw [show wa.alloc _ = wb from Hwb.out]) | fail)
  refine Hge.out.mono ?_
  rintro e w1 ⟨rfl, hm1⟩
  obtain ⟨wz, hwz⟩ : ∃ wz : World, w1.alloc (.cells v.cells.toArray 46) = wz := ⟨_, rfl⟩
  have hmwz : Mod (fun _ => False) w1 wz := hwz ▸ (Mod.refl (fun _ => False) w1).alloc _
  have hgwz := heap_alloc_new w1 (.cells v.cells.toArray 46)
  rw [hwz] at hgwz
  have hzwz : wz.heap.size = w1.heap.size + 1 := by rw [← hwz]; simp
  have hm0z := (Hmb.out.trans hm1 (fun _ _ h => h)).trans hmwz (fun _ _ h => h)
  have hgz := hmwz.heap (hm1.heap Hg.out (fun h => h)) (fun h => h)
  have hhz := Hho.out wz
  have Hwz := Lib.hid hwz
  have Hgwz := Lib.hid hgwz
  have Hm0z := Lib.hid hm0z
  have Hgz := Lib.hid hgz
  have Hhz := Lib.hid hhz
  clear hwz hgwz hm0z hgz hhz hmwz hzwz hm1 c0 d0 d1 Hge Hg Hho
  cases b with
  | false =>
    go_wp2_with (first | ((with_reducible refine wpList_store_lit 46 (.tmp 5) (.tmp 12) ?_); refine ⟨rfl, v.cells, rfl, rfl, by kernel_rfl, rfl, ?_⟩; rw [Hwz.out]) | fail)
    go_ret
    exact ⟨by rw [← HR.out]; rfl, Hm0z.out⟩
  | true =>
    have c0 : wz.cell? ⟨w.heap.size, 0, none⟩ = some (.string c.name) := cell_of Hgz.out rfl
    have c1 : wz.cell? ⟨w.heap.size, 1, none⟩ = some (.int .i64 c.op) := cell_of Hgz.out rfl
    have c2 : wz.cell? ⟨w.heap.size, 2, none⟩ = some (.int .i64 c.v.kind) := cell_of Hgz.out rfl
    have c3 : wz.cell? ⟨w.heap.size, 3, none⟩ = some (.int .i64 c.v.int) := cell_of Hgz.out rfl
    have c4 : wz.cell? ⟨w.heap.size, 4, none⟩ = some (.float .f64 c.v.num) := cell_of Hgz.out rfl
    have c5 : wz.cell? ⟨w.heap.size, 5, none⟩ = some (.string c.v.text) := cell_of Hgz.out rfl
    have c6 : wz.cell? ⟨w.heap.size, 6, none⟩ = some (.bool c.v.yes) := cell_of Hgz.out rfl
    have z0 : wz.cell? ⟨w1.heap.size, 0, none⟩ = some (.int .i64 v.kind) := cell_of Hgwz.out rfl
    have z1 : wz.cell? ⟨w1.heap.size, 1, none⟩ = some (.int .i64 v.int) := cell_of Hgwz.out rfl
    have z2 : wz.cell? ⟨w1.heap.size, 2, none⟩ = some (.float .f64 v.num) := cell_of Hgwz.out rfl
    have z3 : wz.cell? ⟨w1.heap.size, 3, none⟩ = some (.string v.text) := cell_of Hgwz.out rfl
    have z4 : wz.cell? ⟨w1.heap.size, 4, none⟩ = some (.bool v.yes) := cell_of Hgwz.out rfl
    go_wp2_with (first | ((with_reducible refine wpList_store_lit 46 (.tmp 5) (.tmp 12) ?_); refine ⟨rfl, v.cells, rfl, rfl, by kernel_rfl, rfl, ?_⟩; rw [Hwz.out]) | fail)
    refine Hhz.out.mono ?_
    rintro e w2 ⟨rfl, hm2⟩
    have Hm2 := Lib.hid (Hm0z.out.trans hm2 (fun _ _ h => h))
    clear hm2
    go_wp2
    go_ret
    exact ⟨by rw [← HR.out]; rfl, Hm2.out⟩

/-- Does an event do? -/
def filMatch (sc : ByteArray) (cs : List Cnd) (es : ByteArray) (l : List Att) : Bool := cs.all (fun c => c.matchB l) && underB es sc

theorem filter_match (w : World) (sc : ByteArray) (cv : Value) (cs : List Cnd) (hc : RdSl w 7 cv cs.length (cnds cs)) (hcl : cs.length ≤ 9223372036854775807) (hsc : sc.size ≤ 9223372036854775807) (hct : ∀ c ∈ cs, c.v.text.size ≤ 9223372036854775807)
    (es : ByteArray) (av : Value) (l : List Att) (hv : RdSl w 6 av l.length (atts l)) (hll : l.length ≤ 1000000) (hr : rises l) (hes : es.size ≤ 9223372036854775807) (ht : ∀ a ∈ l, a.v.text.size ≤ 9223372036854775807) :
    Calls Try.prog 53 #[.agg #[.string sc, cv], .agg #[.string es, av]] w fun e w' => e = .returned (.bool (filMatch sc cs es l)) ∧ Mod (fun _ => False) w w' := by
  obtain ⟨a, cap, rfl⟩ : ∃ a c, av = .slice a l.length c := by obtain ⟨-, a, c, h, -⟩ := hv; exact ⟨a, c, h⟩
  exact match_over (fun c => c.matchB l) w sc cv cs es (.slice a l.length cap) a l.length cap rfl hc hcl hsc hes (fun c hm wx hwx => cond_match c (hct c hm) wx es _ l (hv.mod hwx (fun _ _ h => h)) hll hr ht)
end Go.Proofs.Ytpfnemkfbelpcaa
