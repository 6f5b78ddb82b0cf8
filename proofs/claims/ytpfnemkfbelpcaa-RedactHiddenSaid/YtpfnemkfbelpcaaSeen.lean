/-
  event.Without, redact.Event and gazetteref10.Seen: what of an event a principal may see.
-/
import Derived.Test.YtpfnemkfbelpcaaHid
import Derived.Test.YtpfnemkfbelpcaaEv7
import Derived.Test.YtpfnemkfbelpcaaRef7
namespace Go.Proofs.Ytpfnemkfbelpcaa
set_option maxRecDepth 20000
open Go.RowKit

theorem att_struct : (match Try.prog.underlying 48 with | some (.struct _) => true | some (.array _ _) => true | _ => false) = true := by kernel_rfl
theorem att_size : (Try.prog.info? 48).map (·.size) = some 6 := by kernel_rfl
@[go_sem ↓] theorem run_load_att {ρ : Operand → Value} {dst : Option Tmp} {x : Operand} {type : TypeId} {pos : String} {after : Array Edge} {guard : Option (Nat × Bool)} {w : World} (h : AllV w (ρ x) 6) :
    Sem.run Try.prog (execOp ρ ⟨dst, .load 48 x, type, pos, after, guard⟩) w = .ok (.value (.agg (cellsV w (ρ x) 6))) w := run_load_all att_struct att_size h

theorem keep_snoc {α : Type} (p : α → Bool) {l : List α} {j : Nat} {x : α} (h : l[j]? = some x) : (l.take (j + 1)).filter p = (l.take j).filter p ++ (if p x = true then [x] else []) := by
  rw [List.take_add_one, h, List.filter_append]
  cases hp : p x <;> simp [hp]

/-- What is kept of attributes of whose names none is among some. -/
def keepA (N : List (List UInt8)) (l : List Att) : List Att := l.filter fun a => !decide (a.name.data.toList ∈ N)

set_option maxHeartbeats 8000000 in
theorem without_at (w : World) (es : ByteArray) (ea : Option Addr) (ec : Nat) (L : List Att) (hv : RdSl w 6 (.slice ea L.length ec) L.length (atts L)) (hll : L.length ≤ 1000) (nv : Value) (N : List (List UInt8)) (hn : OwnSl w 9 1 nv N.length (strs N)) (hN : N.length ≤ 1000000) :
    Calls Try.prog 40 #[.agg #[.string es, .slice ea L.length ec], nv] w fun e w' => ∃ av, e = .returned (.agg #[.string es, av]) ∧ OwnSl w' 48 6 av (keepA N L).length (atts (keepA N L)) ∧
      (∀ b, av.ownBlock = some b → w.heap.size ≤ b) ∧ Mod (fun _ => False) w w' := by
  obtain ⟨wa, hwa⟩ : ∃ wa : World, w.alloc (.cells #[.string es, .slice ea L.length ec] 40) = wa := ⟨_, rfl⟩
  have hmwa : Mod (fun _ => False) w wa := hwa ▸ (Mod.refl (fun _ => False) w).alloc _
  have hgwa := heap_alloc_new w (.cells #[.string es, .slice ea L.length ec] 40)
  rw [hwa] at hgwa
  have hzwa : wa.heap.size = w.heap.size + 1 := by rw [← hwa]; simp
  obtain ⟨wb, hwb⟩ : ∃ wb : World, wa.alloc (.cells #[.string ⟨#[]⟩, .slice none 0 0] 40) = wb := ⟨_, rfl⟩
  have hmwb : Mod (fun _ => False) wa wb := hwb ▸ (Mod.refl (fun _ => False) wa).alloc _
  have hgwb := heap_alloc_new wa (.cells #[.string ⟨#[]⟩, .slice none 0 0] 40)
  rw [hwb] at hgwb
  have hzwb : wb.heap.size = wa.heap.size + 1 := by rw [← hwb]; simp
  obtain ⟨w6, hw6⟩ : ∃ w6 : World, wb.alloc (.cells #[.string es, .slice none 0 0] 40) = w6 := ⟨_, rfl⟩
  have hmw6 : Mod (fun _ => False) wb w6 := hw6 ▸ (Mod.refl (fun _ => False) wb).alloc _
  have hgw6 := heap_alloc_new wb (.cells #[.string es, .slice none 0 0] 40)
  rw [hw6] at hgw6
  have hzw6 : w6.heap.size = wb.heap.size + 1 := by rw [← hw6]; simp
  have hm06 := hmwa.trans (hmwb.trans hmw6 (fun _ _ h => h)) (fun _ _ h => h)
  have hga := (hmwb.trans hmw6 (fun _ _ h => h)).heap hgwa (fun h => h)
  have hgb := hmw6.heap hgwb (fun h => h)
  have hrd := hv.mod hm06 (fun _ _ h => h)
  have hnd := hn.rd.mod hm06 (fun _ _ h => h)
  have hnl := hn.lt
  have hgab := hmwb.heap hgwa (fun h => h)
  have c0 : wb.cell? ⟨w.heap.size, 0, none⟩ = some (.string es) := cell_of hgab rfl
  have c1 : w6.cell? ⟨w.heap.size, 1, none⟩ = some (.slice ea L.length ec) := cell_of hga rfl
  have hav : ∀ b, (Value.slice ea L.length ec).ownBlock = some b → 0 < L.length → b < w.heap.size := fun b hb h0 => by
    obtain ⟨-, a', c', h1, -, -, h4⟩ := hv
    cases h1
    cases ea with
    | none => cases hb
    | some q =>
      obtain ⟨g, off, rfl, h5⟩ := h4 q rfl h0
      have h9 : 0 < (atts L).length := by rw [atts_length]; omega
      have h6 : (atts L)[0]? = some (atts L)[0] := List.getElem?_eq_getElem h9
      have h7 := World.block_lt_of_cell? w _ (h5 0 _ h6)
      have h8 : some g = some b := hb
      cases h8
      exact h7
  have hz1 : w.heap.size < wa.heap.size := by omega
  have hz2 : wa.heap.size < wb.heap.size := by omega
  have hz3 : wb.heap.size < w6.heap.size := by omega
  have hLl : (L.length : Int) ≤ 1000 := by omega
  have Hwa := Lib.hid hwa
  have Hwb := Lib.hid hwb
  have Hw6 := Lib.hid hw6
  have Hm06 := Lib.hid hm06
  have Hga := Lib.hid hga
  have Hgb := Lib.hid hgb
  have Hrd := Lib.hid hrd
  have Hnd := Lib.hid hnd
  have Hnl := Lib.hid hnl
  have Hav := Lib.hid hav
  have Hgw6 := Lib.hid hgw6
  have Hv := Lib.hid hv
  have Hn := Lib.hid hn
  have HN := Lib.hid hN
  clear hwa hwb hw6 hm06 hga hgb hrd hnd hnl hav hgw6 hv hn hN hmwa hmwb hmw6 hgwa hgwb hzwa hzwb hzw6 hgab
  go_enter Try.func40, Try.ntmps40
  go_wp2_with (first | (rw [show w.alloc _ = wa from Hwa.out]) | (rw [show wa.alloc _ = wb from Hwb.out]) | ((with_reducible refine wpList_store_lit 40 (.tmp 5) (.tmp 10) ?_); refine ⟨rfl, [.string es, .slice none 0 0], rfl, rfl, by kernel_rfl, rfl, ?_⟩; rw [Hw6.out]) | fail)
  clear c0 c1
  go_loopw [14] (fun i wr => ∃ (j n : Nat) (oa : Option Addr) (oc : Nat), i = .int .i64 j ∧ j ≤ L.length ∧ n = (keepA N (L.take j)).length ∧ wr.heap[wb.heap.size]? = some (.cells #[.string es, .slice oa n oc] 40 (0, 0)) ∧
    OwnSl wr 48 6 (.slice oa n oc) n (atts (keepA N (L.take j))) ∧ (∀ b, (Value.slice oa n oc).ownBlock = some b → w6.heap.size ≤ b) ∧ Mod (fun k => k = wb.heap.size) w6 wr) (fun i _ => L.length - (intOf i).toNat)
  case atStart => exact ⟨0, 0, none, 0, rfl, Nat.zero_le _, rfl, Hgw6.out, OwnSl.nil _ _ _, fun b hb => (by cases hb), Mod.refl _ _⟩
  case round =>
    obtain ⟨j, n, oa, oc, rfl, hj, hn, hrow, hown, hfo, hmr⟩ := hrel
    by_cases hlt : j < L.length
    · have hlt' : (j : Int) < L.length := by omega
      obtain ⟨x, hxj⟩ : ∃ x, L[j]? = some x := ⟨_, List.getElem?_eq_getElem hlt⟩
      obtain ⟨g, off, rfl, hf⟩ : ∃ g off, ea = some ⟨g, off, none⟩ ∧ CellsAt wr g (off + j * 6) x.cells := rd_att (Hrd.out.mod hmr (fun b hb => by have := Hav.out b hb (by omega); omega)) hxj
      have hnx := keep_snoc (fun a : Att => !decide (a.name.data.toList ∈ N)) hxj
      obtain ⟨acc, hacc⟩ : ∃ q, keepA N (L.take j) = q := ⟨_, rfl⟩
      have hle : acc.length ≤ j := by rw [← hacc]; exact Nat.le_trans (List.length_filter_le _ _) (List.length_take_le _ _)
      rw [hacc] at hn hown
      obtain ⟨nx, hnx'⟩ : ∃ q, keepA N (L.take (j + 1)) = q := ⟨_, rfl⟩
      have hnx0 : nx = acc ++ (if (!decide (x.name.data.toList ∈ N)) = true then [x] else []) := by rw [← hnx', ← hacc]; exact hnx
      have hn8 : n ≤ 1000 := by omega
      have hn8' : (n : Int) ≤ 1000 := by omega
      obtain ⟨wz, hwz⟩ : ∃ wz : World, wr.alloc (.cells x.cells.toArray 48) = wz := ⟨_, rfl⟩
      have hmwz : Mod (fun _ => False) wr wz := hwz ▸ (Mod.refl (fun _ => False) wr).alloc _
      have hgwz := heap_alloc_new wr (.cells x.cells.toArray 48)
      rw [hwz] at hgwz
      have hzwz : wz.heap.size = wr.heap.size + 1 := by rw [← hwz]; simp
      have hlr : wb.heap.size < wr.heap.size := (Array.getElem?_eq_some_iff.1 hrow).1
      have hrowz := hmwz.heap hrow (fun h => h)
      have hownz := hown.mod hmwz (fun _ _ h => h)
      have hmz : Mod (fun k => k = wb.heap.size) w6 wz := hmr.trans hmwz (fun _ _ h => h.elim)
      have hlz2 : wr.heap.size < wz.heap.size := by omega
      have x0 : wz.cell? ⟨wr.heap.size, 0, none⟩ = some (.string x.name) := cell_of hgwz rfl
      have x1 : wz.cell? ⟨wr.heap.size, 1, none⟩ = some (.int .i64 x.v.kind) := cell_of hgwz rfl
      have x2 : wz.cell? ⟨wr.heap.size, 2, none⟩ = some (.int .i64 x.v.int) := cell_of hgwz rfl
      have x3 : wz.cell? ⟨wr.heap.size, 3, none⟩ = some (.float .f64 x.v.num) := cell_of hgwz rfl
      have x4 : wz.cell? ⟨wr.heap.size, 4, none⟩ = some (.string x.v.text) := cell_of hgwz rfl
      have x5 : wz.cell? ⟨wr.heap.size, 5, none⟩ = some (.bool x.v.yes) := cell_of hgwz rfl
      have hct := contains_str wz nv N (Hnd.out.mod hmz (fun b hb => by have := Hnl.out b hb; omega)) HN.out x.name
      obtain ⟨B, hB⟩ : ∃ B, decide (x.name.data.toList ∈ N) = B := ⟨_, rfl⟩
      rw [hB] at hct hnx0
      have Hxj := Lib.hid hxj
      have Hf := Lib.hid hf
      have Hwz := Lib.hid hwz
      have Hgwz := Lib.hid hgwz
      have Hrowz := Lib.hid hrowz
      have Hownz := Lib.hid hownz
      have Hmz := Lib.hid hmz
      have Hn := Lib.hid hn
      have Hnx0 := Lib.hid hnx0
      have Hnx' := Lib.hid hnx'
      have Hfo := Lib.hid hfo
      have Hct := Lib.hid hct
      clear hxj hf hwz hgwz hrowz hownz hmz hn hnx0 hnx' hfo hct hzwz hmwz hacc hrow hown hmr hnx hB hle
      go_wp2_with (first | ((with_reducible refine wpList_load_lit 48 (.tmp 16) ?_); refine ⟨g, off + j * 6, rfl, x.cells, Hf.out, by kernel_rfl, by kernel_rfl, ?_⟩) | ((with_reducible refine wpList_store_lit 48 (.tmp 7) (.tmp 17) ?_); refine ⟨rfl, x.cells, rfl, rfl, by kernel_rfl, rfl, ?_⟩; rw [Hwz.out]) | fail)
      refine Hct.out.mono ?_
      rintro e w8 ⟨rfl, rfl⟩
      clear Hct
      cases B with
      | true =>
        have hnx3 : nx = acc := by rw [Hnx0.out]; exact List.append_nil _
        have hown4 := Hownz.out
        rw [← hnx3, ← Hnx'.out] at hown4
        have hlen : n = (keepA N (L.take (j + 1))).length := by rw [Hnx'.out, hnx3]; exact Hn.out
        have Hown4 := Lib.hid hown4
        have Hlen := Lib.hid hlen
        clear hown4 hlen hnx3
        go_wp2_with fail
        go_roundw
        case rel => exact ⟨j + 1, n, oa, oc, by go_num, hlt, Hlen.out, Hrowz.out, Hown4.out, Hfo.out, Hmz.out⟩
        case measure => simp [intOf]; omega
      | false =>
        have hnx3 : nx = acc ++ [x] := Hnx0.out
        obtain ⟨wT, hwT⟩ : ∃ wT : World, w8.alloc (.cells x.cells.toArray 48) = wT := ⟨_, rfl⟩
        have hmwT : Mod (fun _ => False) w8 wT := hwT ▸ (Mod.refl (fun _ => False) w8).alloc _
        have hgwT := heap_alloc_new w8 (.cells x.cells.toArray 48)
        rw [hwT] at hgwT
        have hzwT : wT.heap.size = w8.heap.size + 1 := by rw [← hwT]; simp
        have hwT' : w8.alloc (.cells #[.string x.name, .int .i64 x.v.kind, .int .i64 x.v.int, .float .f64 x.v.num, .string x.v.text, .bool x.v.yes] 48) = wT := hwT
        have hrdT : RdSl wT 6 (.slice (some ⟨w8.heap.size, 0, none⟩) 1 1) 1 x.cells := hwT ▸ RdSl.one w8 x.cells 48 rfl
        have hone : ∀ u ∈ x.cells, u.oneCell' = true := fun u hu => List.all_eq_true.1 (show x.cells.all (·.oneCell') = true from rfl) u hu
        have hrowT := hmwT.heap Hrowz.out (fun h => h)
        have hownT := Hownz.out.mod hmwT (fun _ _ h => h)
        have hmT : Mod (fun k => k = wb.heap.size) w6 wT := Hmz.out.trans hmwT (fun _ _ h => h.elim)
        have hlen : n + 1 = (keepA N (L.take (j + 1))).length := by rw [Hnx'.out, hnx3, List.length_append, ← Hn.out]; rfl
        have hatt : atts acc ++ x.cells = atts (keepA N (L.take (j + 1))) := by rw [Hnx'.out, hnx3, atts_append]; simp [atts]
        have o1 : w8.cell? ⟨wb.heap.size, 1, none⟩ = some (.slice oa n oc) := cell_of Hrowz.out rfl
        have hl3 : wb.heap.size < w8.heap.size := (Array.getElem?_eq_some_iff.1 Hrowz.out).1
        have Hxg := Hgwz
        have HwT' := Lib.hid hwT'
        have HrdT := Lib.hid hrdT
        have Hone := Lib.hid hone
        have HrowT := Lib.hid hrowT
        have HownT := Lib.hid hownT
        have HmT := Lib.hid hmT
        have Hlen := Lib.hid hlen
        have Hatt := Lib.hid hatt
        clear hwT' hrdT hone hrowT hownT hmT hlen hatt hwT hmwT hgwT hzwT hnx3 x0 x1 x2 x3 x4 x5
        go_wp2_with (first | ((with_reducible refine wpList_load_lit 48 (.tmp 7) ?_); refine ⟨wr.heap.size, 0, rfl, [.string x.name, .int .i64 x.v.kind, .int .i64 x.v.int, .float .f64 x.v.num, .string x.v.text, .bool x.v.yes], CellsAt.row Hxg.out, by kernel_rfl, by kernel_rfl, ?_⟩) | (rw [show w8.alloc _ = wT from HwT'.out]) | ((with_reducible refine wpList_append_lit (.tmp 24) (.tmp 26) 38 ?_); refine ⟨rfl, 48, 6, 64, atts_T', .slice oa n oc, n, atts acc, rfl, HownT.out, _, 1, x.cells, rfl, HrdT.out, Hone.out, by omega, by unfold maxLen; omega, ?_⟩; intro ad cap2 w4 hA; have hne4 : ¬ inBlock (.slice oa n oc) wb.heap.size := (fun h => by have := Hfo.out _ h; omega); have hrow4 := hA.2.1.heap HrowT.out hne4; have f1 : w4.frozen? ⟨wb.heap.size, 1, none⟩ = false := fr_of hrow4; have e1 : w4.cell? ⟨wb.heap.size, 1, none⟩ = some (.slice oa n oc) := cell_of hrow4 rfl; have HA := Lib.hid hA; have Hrow4 := Lib.hid hrow4; have Hne4 := Lib.hid hne4; clear hA hrow4 hne4) | fail)
        have hfr5 : ∀ b, (Value.slice ad (n + 1) cap2).ownBlock = some b → w6.heap.size ≤ b := fun b hb => by
          rcases HA.out.2.2 with h | ⟨k, h, hk⟩
          · exact Hfo.out b (by rw [← h]; exact hb)
          · rw [h] at hb; cases hb
            have := HmT.out.size
            omega
        have hm4 : Mod (fun k => k = wb.heap.size) w6 w4 := HmT.out.upon HA.out.2.1 (fun b hb => .inr (Hfo.out b hb))
        have hown4 := HA.out.1
        rw [Hatt.out] at hown4
        have Hfr5 := Lib.hid hfr5
        have Hm4 := Lib.hid hm4
        have Hown4 := Lib.hid hown4
        clear hfr5 hm4 hown4 HA
        go_roundw
        case rel =>
          refine ⟨j + 1, n + 1, ad, cap2, by go_num, hlt, Hlen.out, heap_set Hrow4.out, Hown4.out.setCell (fun h => ?_) _, Hfr5.out, Hm4.out.setCell (fun _ => rfl) _⟩
          have := Hfr5.out _ h
          have h2 : w6.heap.size ≤ wb.heap.size := this
          omega
        case measure => simp [intOf]; omega
    · obtain rfl : j = L.length := by omega
      rw [List.take_length] at hn hown
      have hgr := hmr.heap Hgb.out (by omega)
      have hm0r : Mod (fun _ => False) w wr := Hm06.out.upon hmr (fun b hb => .inr (by omega))
      have Hrow := Lib.hid hrow
      have Hown := Lib.hid hown
      have Hn := Lib.hid hn
      have Hgr := Lib.hid hgr
      have Hm0r := Lib.hid hm0r
      have Hfo := Lib.hid hfo
      clear hrow hown hn hgr hm0r hfo hmr
      go_wp2_with (first | ((with_reducible refine wpList_load_lit 40 (.tmp 5) ?_); refine ⟨wb.heap.size, 0, rfl, [.string es, .slice oa n oc], CellsAt.row Hrow.out, by kernel_rfl, by kernel_rfl, ?_⟩) | ((with_reducible refine wpList_store_row_lit 40 (.tmp 4) (.tmp 30) ?_); refine ⟨wa.heap.size, rfl, _, _, Hgr.out, [.string es, .slice oa n oc], rfl, rfl, by kernel_rfl, rfl, ?_⟩; intro w9 hg9 hm9; have Hg9 := Lib.hid hg9; have Hm9 := Lib.hid hm9; clear hg9 hm9) | fail)
      refine bodyPost_cell rfl wa.heap.size rfl _ (CellsAt.row Hg9.out) (by kernel_rfl) (by kernel_rfl) rfl ⟨.slice oa n oc, rfl, ?_, ?_, ?_⟩
      · rw [← Hn.out]
        exact Hown.out.mod Hm9.out (fun b hb => by have := Hfo.out b hb; have := Hm06.out.size; omega)
      · exact fun b hb => by have := Hfo.out b hb; have := Hm06.out.size; omega
      · exact Hm0r.out.upon Hm9.out (fun b hb => .inr (by omega))

def seenA (l : List Ru) (tenant : Int) (who es : ByteArray) (L : List Att) : List Att := keepA (hidL (hidR l tenant who es)) L

set_option maxHeartbeats 4000000 in
theorem revent_at (w : World) (v : Value) (l : List Ru) (hv : RuSl w v l) (hll : l.length ≤ 1000000) (tenant : Int) (who es : ByteArray) (hs : es.size ≤ 9223372036854775807) (ea : Option Addr) (ec : Nat) (L : List Att) (hL : RdSl w 6 (.slice ea L.length ec) L.length (atts L)) (hLl : L.length ≤ 1000) :
    Calls Try.prog 19 #[v, .int .i64 tenant, .string who, .agg #[.string es, .slice ea L.length ec]] w fun e w' => ∃ av, e = .returned (.agg #[.string es, av]) ∧
      OwnSl w' 48 6 av (seenA l tenant who es L).length (atts (seenA l tenant who es L)) ∧ (∀ b, av.ownBlock = some b → w.heap.size ≤ b) ∧ Mod (fun _ => False) w w' := by
  obtain ⟨a, cap, rfl, hcap⟩ : ∃ a c, v = .slice a l.length c ∧ l.length ≤ c := by obtain ⟨-, a, c, h, h2, -⟩ := hv.rd; exact ⟨a, c, h, h2⟩
  obtain ⟨wa, hwa⟩ : ∃ wa : World, w.alloc (.cells #[.string es, .slice ea L.length ec] 40) = wa := ⟨_, rfl⟩
  have hmwa : Mod (fun _ => False) w wa := hwa ▸ (Mod.refl (fun _ => False) w).alloc _
  have hgwa := heap_alloc_new w (.cells #[.string es, .slice ea L.length ec] 40)
  rw [hwa] at hgwa
  have hzwa : wa.heap.size = w.heap.size + 1 := by rw [← hwa]; simp
  obtain ⟨wb, hwb⟩ : ∃ wb : World, wa.alloc (.cells #[.string ⟨#[]⟩, .slice none 0 0] 40) = wb := ⟨_, rfl⟩
  have hmwb : Mod (fun _ => False) wa wb := hwb ▸ (Mod.refl (fun _ => False) wa).alloc _
  have hgwb := heap_alloc_new wa (.cells #[.string ⟨#[]⟩, .slice none 0 0] 40)
  rw [hwb] at hgwb
  have hzwb : wb.heap.size = wa.heap.size + 1 := by rw [← hwb]; simp
  have hm0b := (hmwa.trans hmwb (fun _ _ h => h)).drew
  have hga := heap_drew_ (hmwb.heap hgwa (fun h => h))
  have hgb := heap_drew_ hgwb
  have hz1 : w.heap.size < wa.heap.size := by omega
  have hz2 : wa.heap.size < wb.heap.size := by omega
  have hvd := hv.mod hm0b
  have hLd := hL.mod hm0b (fun _ _ h => h)
  have hhd := hidden_at wb.drew (.slice a l.length cap) l hvd hll tenant who es hs
  have hHl : (hidL (hidR l tenant who es)).length ≤ 1000000 := Nat.le_trans (hidL_len _) (by unfold hidR namesL; rw [List.length_map]; exact Nat.le_trans (List.length_filter_le _ _) hll)
  obtain ⟨R, hR⟩ : ∃ R, seenA l tenant who es L = R := ⟨_, rfl⟩
  have hR2 : keepA (hidL (hidR l tenant who es)) L = R := hR
  obtain ⟨H, hH⟩ : ∃ H, hidL (hidR l tenant who es) = H := ⟨_, rfl⟩
  rw [hH] at hhd hHl hR2
  have Hwa := Lib.hid hwa
  have Hwb := Lib.hid hwb
  have Hga := Lib.hid hga
  have Hgb := Lib.hid hgb
  have Hm0b := Lib.hid hm0b
  have HLd := Lib.hid hLd
  have Hhd := Lib.hid hhd
  have HLl := Lib.hid hLl
  have HHl := Lib.hid hHl
  have HR := Lib.hid hR
  have HR2 := Lib.hid hR2
  clear hwa hwb hga hgb hm0b hLd hhd hLl hHl hR hR2 hv hvd hmwa hmwb hgwa hgwb hzwa hzwb hll hcap hL hH hs
  go_enter Try.func19, Try.ntmps19
  go_wp2_with (first | (rw [show w.alloc _ = wa from Hwa.out]) | (rw [show wa.alloc _ = wb from Hwb.out]) | fail)
  have hS : (fun y : World => y.cell? ⟨w.heap.size, 0, none⟩ = some (.string es) ∧ y.cell? ⟨w.heap.size, 1, none⟩ = some (.slice ea L.length ec)) wb.drew := ⟨cell_of Hga.out rfl, cell_of Hga.out rfl⟩
  refine wp_region_script [.rd 0, .rd 1, .rd 2, .rd 3, .rd 4, .rd 5, .go 6, .go 7, .go 8] [0, 1, 2, 3, 4, 5, 6] (fun y : World => y.cell? ⟨w.heap.size, 0, none⟩ = some (.string es) ∧ y.cell? ⟨w.heap.size, 1, none⟩ = some (.slice ea L.length ec)) (by kernel_rfl) (by kernel_rfl) (fun _ _ d _ _ h => (by cases d <;> exact h)) ?_
  refine walk_rd rfl ?_ (fun _ => hS) ?_ (fun w0 h0 => ?_) (fun K hK => ?_)
  · (try simp only [List.getElem_toArray]); (try simp only [List.getElem_cons_succ]); (try simp only [List.getElem_cons_zero])
    go_simp; done
  rotate_left
  · (try simp only [List.getElem_toArray]); (try simp only [List.getElem_cons_succ]); (try simp only [List.getElem_cons_zero])
    first
      | (obtain ⟨h1, h2⟩ := h0 rfl; clear h0; go_simp; with_reducible rfl)
      | (clear h0; go_simp; with_reducible rfl)
  (try simp only [List.getElem_toArray]); (try simp only [List.getElem_cons_succ]); (try simp only [List.getElem_cons_zero])
  go_simp; refine hK _ ?_; clear hK K
  refine walk_rd rfl ?_ (fun _ => hS) ?_ (fun w0 h0 => ?_) (fun K hK => ?_)
  · (try simp only [List.getElem_toArray]); (try simp only [List.getElem_cons_succ]); (try simp only [List.getElem_cons_zero])
    go_simp; done
  rotate_left
  · (try simp only [List.getElem_toArray]); (try simp only [List.getElem_cons_succ]); (try simp only [List.getElem_cons_zero])
    first
      | (obtain ⟨h1, h2⟩ := h0 rfl; clear h0; go_simp; with_reducible rfl)
      | (clear h0; go_simp; with_reducible rfl)
  (try simp only [List.getElem_toArray]); (try simp only [List.getElem_cons_succ]); (try simp only [List.getElem_cons_zero])
  go_simp; refine hK _ ?_; clear hK K
  refine walk_rd rfl ?_ (fun _ => hS) ?_ (fun w0 h0 => ?_) (fun K hK => ?_)
  · (try simp only [List.getElem_toArray]); (try simp only [List.getElem_cons_succ]); (try simp only [List.getElem_cons_zero])
    go_simp; done
  rotate_left
  · (try simp only [List.getElem_toArray]); (try simp only [List.getElem_cons_succ]); (try simp only [List.getElem_cons_zero])
    first
      | (obtain ⟨h1, h2⟩ := h0 rfl; clear h0; go_simp; with_reducible rfl)
      | (clear h0; go_simp; with_reducible rfl)
  (try simp only [List.getElem_toArray]); (try simp only [List.getElem_cons_succ]); (try simp only [List.getElem_cons_zero])
  go_simp; refine hK _ ?_; clear hK K
  refine walk_rd rfl ?_ (fun _ => hS) ?_ (fun w0 h0 => ?_) (fun K hK => ?_)
  · (try simp only [List.getElem_toArray]); (try simp only [List.getElem_cons_succ]); (try simp only [List.getElem_cons_zero])
    go_simp; done
  rotate_left
  · (try simp only [List.getElem_toArray]); (try simp only [List.getElem_cons_succ]); (try simp only [List.getElem_cons_zero])
    first
      | (obtain ⟨h1, h2⟩ := h0 rfl; clear h0; go_simp; with_reducible rfl)
      | (clear h0; go_simp; with_reducible rfl)
  (try simp only [List.getElem_toArray]); (try simp only [List.getElem_cons_succ]); (try simp only [List.getElem_cons_zero])
  go_simp; refine hK _ ?_; clear hK K
  refine walk_rd rfl ?_ (fun _ => hS) ?_ (fun w0 h0 => ?_) (fun K hK => ?_)
  · (try simp only [List.getElem_toArray]); (try simp only [List.getElem_cons_succ]); (try simp only [List.getElem_cons_zero])
    go_simp; done
  rotate_left
  · (try simp only [List.getElem_toArray]); (try simp only [List.getElem_cons_succ]); (try simp only [List.getElem_cons_zero])
    first
      | (obtain ⟨h1, h2⟩ := h0 rfl; clear h0; go_simp; with_reducible rfl)
      | (clear h0; go_simp; with_reducible rfl)
  (try simp only [List.getElem_toArray]); (try simp only [List.getElem_cons_succ]); (try simp only [List.getElem_cons_zero])
  go_simp; refine hK _ ?_; clear hK K
  refine walk_rd rfl ?_ (fun _ => hS) ?_ (fun w0 h0 => ?_) (fun K hK => ?_)
  · (try simp only [List.getElem_toArray]); (try simp only [List.getElem_cons_succ]); (try simp only [List.getElem_cons_zero])
    go_simp; done
  rotate_left
  · (try simp only [List.getElem_toArray]); (try simp only [List.getElem_cons_succ]); (try simp only [List.getElem_cons_zero])
    first
      | (obtain ⟨h1, h2⟩ := h0 rfl; clear h0; go_simp; with_reducible rfl)
      | (clear h0; go_simp; with_reducible rfl)
  (try simp only [List.getElem_toArray]); (try simp only [List.getElem_cons_succ]); (try simp only [List.getElem_cons_zero])
  go_simp; refine hK _ ?_; clear hK K
  refine walk_one (go_yes rfl ?_ (fun K hK => ?_))
  · (try simp only [List.getElem_toArray]); (try simp only [List.getElem_cons_succ]); (try simp only [List.getElem_cons_zero])
    go_simp; done
  go_wp2_with fail
  refine Hhd.out.mono ?_
  rintro e w1 ⟨hv1, rfl, hown1, hfr1, hm1⟩
  have hz3 : wb.heap.size ≤ w1.heap.size := hm1.size
  have hg1 := hm1.heap Hga.out (fun h => h)
  have hgb1 := hm1.heap Hgb.out (fun h => h)
  have hwo := without_at w1 es ea ec L (HLd.out.mod hm1 (fun _ _ h => h)) HLl.out hv1 H hown1 HHl.out
  rw [HR2.out] at hwo
  have hm01 := Hm0b.out.trans hm1 (fun _ _ h => h)
  refine hK _ _ (fun _ _ => ⟨cell_of hg1 rfl, cell_of hg1 rfl⟩) ?_
  clear hK K hS
  have Hwo := Lib.hid hwo
  have Hgb1 := Lib.hid hgb1
  have Hm01 := Lib.hid hm01
  clear hwo hgb1 hm01 hg1 hm1 hown1 hfr1 Hhd
  refine walk_one (go_yes rfl ?_ (fun K hK => ?_))
  · (try simp only [List.getElem_toArray]); (try simp only [List.getElem_cons_succ]); (try simp only [List.getElem_cons_zero])
    go_simp; done
  go_wp2_with fail
  refine Hwo.out.mono ?_
  rintro e w2 ⟨av, rfl, hown2, hfr2, hm2⟩
  have hgb2 := hm2.heap Hgb1.out (fun h => h)
  have hm02 := Hm01.out.trans hm2 (fun _ _ h => h)
  have hfr : ∀ b, av.ownBlock = some b → wb.heap.size ≤ b := fun b hb => by have := hfr2 b hb; omega
  obtain ⟨oa, oc, rfl, -⟩ := hown2.shape
  refine hK _ _ (fun h => absurd h (by decide)) ?_
  clear hK K
  refine walk_one (go_yes rfl ?_ (fun K hK => ?_))
  · (try simp only [List.getElem_toArray]); (try simp only [List.getElem_cons_succ]); (try simp only [List.getElem_cons_zero])
    go_simp; done
  (try simp only [List.getElem_toArray]); (try simp only [List.getElem_cons_succ]); (try simp only [List.getElem_cons_zero])
  refine wp_store_row 40 (.tmp 8) (.tmp 16) rfl wa.heap.size rfl _ _ hgb2 [.string es, .slice oa R.length oc] rfl rfl (by kernel_rfl) (fun u hu => List.all_eq_true.1 rfl u hu) ?_
  obtain ⟨w3, hw3⟩ : ∃ q, w2.setRow wa.heap.size ([.string es, .slice oa R.length oc] : List Value).toArray = q := ⟨_, rfl⟩
  have hg3 : w3.heap[wa.heap.size]? = some (.cells ([.string es, .slice oa R.length oc] : List Value).toArray 40 (0, 0)) := hw3 ▸ setRow_heap w2 wa.heap.size _ _ _ (0, 0) hgb2
  have hm3 : Mod (fun k => k = wa.heap.size) w2 w3 := hw3 ▸ (Mod.refl (fun k => k = wa.heap.size) w2).setRow (fun _ => rfl) _
  rw [hw3]
  refine hK _ _ (fun h => absurd h (by decide)) ?_
  clear hK K
  refine walk_nil ?_
  have hown3 := hown2.mod hm3 (fun b hb (e : b = wa.heap.size) => by have := hfr b hb; omega)
  have hm03 : Mod (fun _ => False) w w3 := hm02.upon hm3 (fun b hb => .inr (by omega))
  have Hg3 := Lib.hid hg3
  have Hown3 := Lib.hid hown3
  have Hm03 := Lib.hid hm03
  have Hfr := Lib.hid hfr
  clear hg3 hown3 hm03 hfr hw3 hgb2 hown2 hm02 hm3 hm2 hfr2
  go_wp2_with fail
  refine bodyPost_cell rfl wa.heap.size rfl _ (CellsAt.row Hg3.out) (by kernel_rfl) (by kernel_rfl) rfl ⟨_, rfl, by rw [HR.out]; exact Hown3.out, fun b hb => by have := Hfr.out b hb; omega, Hm03.out⟩
end Go.Proofs.Ytpfnemkfbelpcaa
