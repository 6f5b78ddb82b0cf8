/-
  The next op of bytes: some kinds.
  The next op of bytes: some kinds.
-/
import Derived.Test.YtloplmaekonenaaGreatDoorZi31
namespace Go.Proofs.YtloplmaekonenaaGreatDoor
set_option maxRecDepth 20000
open Go.RowKit
set_option maxRecDepth 20000 in
set_option maxHeartbeats 8000000 in
theorem next_B (w : World) (r G : Nat) (bs : List UInt8) (h : Rdr w r G bs) (hG : G < w.heap.size)
    (hK : ∀ k t, readB bs = some (k, t) → k = 6 ∨ k = 7) :
    Calls Tryz.prog 73 #[.pointer (some ⟨r, 0, none⟩)] w (NextPost w r G bs) := by
  have hrl := h.lt
  obtain ⟨wa, hwa⟩ : ∃ wa : World, w.alloc (.cells #[.int .i64 0, .int .i64 0, .string ⟨#[]⟩, .int .i64 0, .int .i64 0, .string ⟨#[]⟩, .int .i64 0, .string ⟨#[]⟩, .slice none 0 0, .string ⟨#[]⟩, .int .i64 0, .string ⟨#[]⟩, .slice none 0 0, .string ⟨#[]⟩, .slice none 0 0, .int .i64 0, .int .i64 0, .int .i64 0] 119) = wa := ⟨_, rfl⟩
  have hmwa : Mod (fun _ => False) w wa := hwa ▸ (Mod.refl (fun _ => False) w).alloc _
  have hgwa := heap_alloc_new w (.cells #[.int .i64 0, .int .i64 0, .string ⟨#[]⟩, .int .i64 0, .int .i64 0, .string ⟨#[]⟩, .int .i64 0, .string ⟨#[]⟩, .slice none 0 0, .string ⟨#[]⟩, .int .i64 0, .string ⟨#[]⟩, .slice none 0 0, .string ⟨#[]⟩, .slice none 0 0, .int .i64 0, .int .i64 0, .int .i64 0] 119)
  rw [hwa] at hgwa
  have hzwa : wa.heap.size = w.heap.size + 1 := by rw [← hwa]; simp
  have hra := h.new hmwa hrl hG (by simp)
  have hma : Mod (fun k => k = r) w wa := hmwa.mono (by simp)
  have hb1 := rd_byte2 wa r G bs hra
  have Hb1 := Lib.hid hb1
  have Hma := Lib.hid hma
  have Hgwa := Lib.hid hgwa
  have Hwa := Lib.hid hwa
  clear hb1 hma hgwa hwa h hra hmwa
  go_enter Tryz.func73, Tryz.ntmps73
  go_wp2_with fail
  rw [show w.alloc _ = wa from Hwa.out]
  refine Hb1.out.mono ?_
  rintro e w1 (⟨g1, rfl, hm⟩ | ⟨k, t1, g1, rfl, hr, hm⟩)
  · exact ⟨rfl, .inl ⟨by simp only [readO, g1, Option.bind_none], rfl, Hma.out.trans hm (fun _ _ h => h)⟩⟩
  have hm01 := Hma.out.trans hm (fun _ _ h => h)
  have hga1 := hm.heap Hgwa.out (fun e : w.heap.size = r => by omega)
  have hb := rd_byte2 w1 r G t1 hr
  have hk := (readB_back g1).2
  have H1 := Lib.hid g1
  have Hb2 := Lib.hid hb
  have Hm01 := Lib.hid hm01
  have Hga1 := Lib.hid hga1
  clear hb hm01 hr hm Hb1 g1 hga1 Hgwa Hwa Hma
  go_wp2_with fail
  refine Hb2.out.mono ?_
  rintro e w2 (⟨g2, rfl, hm⟩ | ⟨te, t2, g2, rfl, hr, hm⟩)
  · exact ⟨rfl, .inl ⟨by simp only [readO, H1.out, g2, Option.bind_some, Option.bind_none], rfl, Hm01.out.trans hm (fun _ _ h => h)⟩⟩
  have hm02 := Hm01.out.trans hm (fun _ _ h => h)
  have hga2 := hm.heap Hga1.out (fun e : w.heap.size = r => by omega)
  have hl2 : w.heap.size < w2.heap.size := (Array.getElem?_eq_some_iff.1 hga2).1
  have ht := (readB_back g2).2
  have H2 := Lib.hid g2
  clear hm Hm01 Hga1 Hb2 g2
  obtain ⟨B, hB⟩ : ∃ B, decide (te - 1 < 4) = B := ⟨_, rfl⟩
  obtain ⟨w3, hw3⟩ : ∃ w3 : World, w2.alloc (.cells #[.int .i64 k, .int .i64 (te - 1), .string ⟨#[]⟩, .int .i64 0, .int .i64 0, .string ⟨#[]⟩, .int .i64 0, .string ⟨#[]⟩, .slice none 0 0, .string ⟨#[]⟩, .int .i64 0, .string ⟨#[]⟩, .slice none 0 0, .string ⟨#[]⟩, .slice none 0 0, .int .i64 0, .int .i64 0, .int .i64 0] 119) = w3 := ⟨_, rfl⟩
  have hmw3 : Mod (fun _ => False) w2 w3 := hw3 ▸ (Mod.refl (fun _ => False) w2).alloc _
  have hgw3 := heap_alloc_new w2 (.cells #[.int .i64 k, .int .i64 (te - 1), .string ⟨#[]⟩, .int .i64 0, .int .i64 0, .string ⟨#[]⟩, .int .i64 0, .string ⟨#[]⟩, .slice none 0 0, .string ⟨#[]⟩, .int .i64 0, .string ⟨#[]⟩, .slice none 0 0, .string ⟨#[]⟩, .slice none 0 0, .int .i64 0, .int .i64 0, .int .i64 0] 119)
  rw [hw3] at hgw3
  have hzw3 : w3.heap.size = w2.heap.size + 1 := by rw [← hw3]; simp
  have hr3 := hr.new hmw3 (B := w.heap.size) hrl hG (by simp)
  have hm03 := hm02.trans (hmw3.mono (by simp)) (fun _ _ h => h)
  have hga3 := hmw3.heap hga2 (fun h => h)
  have hs3 : G < w3.heap.size := by omega
  have Hr3 := Lib.hid hr3
  have Hm03 := Lib.hid hm03
  have Hga3 := Lib.hid hga3
  have Hgw3 := Lib.hid hgw3
  have Hw3 := Lib.hid hw3
  have Hs3 := Lib.hid hs3
  clear hr3 hm03 hga3 hgw3 hw3 hs3 hga2 hm02 hr hmw3 hzw3
  have hKk := hK _ _ H1.out
  by_cases hk6 : k = 6
  · subst hk6
    have hb3 := rd_byte2 w3 r G t2 Hr3.out
    have c0 : w3.cell? ⟨w2.heap.size, 0, none⟩ = some (.int .i64 6) := cell_of Hgw3.out rfl
    have c1 : w3.cell? ⟨w2.heap.size, 1, none⟩ = some (.int .i64 (te - 1)) := cell_of Hgw3.out rfl
    have Hb3 := Lib.hid hb3
    clear hb3
    go_wp2_with (first | ((with_reducible refine wpList_store_lit 119 (.tmp 4) (.tmp 12) ?_); refine ⟨rfl, [.int .i64 6, .int .i64 (te - 1), .string ⟨#[]⟩, .int .i64 0, .int .i64 0, .string ⟨#[]⟩, .int .i64 0, .string ⟨#[]⟩, .slice none 0 0, .string ⟨#[]⟩, .int .i64 0, .string ⟨#[]⟩, .slice none 0 0, .string ⟨#[]⟩, .slice none 0 0, .int .i64 0, .int .i64 0, .int .i64 0], rfl, rfl, by kernel_rfl, rfl, ?_⟩; rw [Hw3.out]) | fail)
    clear c0 c1
    refine Hb3.out.mono ?_
    rintro e w4 (⟨g3, rfl, hm⟩ | ⟨x, t3, g3, rfl, hr, hm⟩)
    · exact ⟨rfl, .inl ⟨by simp [readO, H1.out, H2.out, g3], rfl, Hm03.out.trans hm (fun _ _ h => h)⟩⟩
    have hm04 := Hm03.out.trans hm (fun _ _ h => h)
    have hl4 : w2.heap.size < w4.heap.size := Nat.lt_of_lt_of_le (Array.getElem?_eq_some_iff.1 Hgw3.out).1 hm.size
    have hg4 := hm.heap Hgw3.out (fun e : w2.heap.size = r => by omega)
    have hga4 := hm.heap Hga3.out (fun e : w.heap.size = r => by omega)
    have H3 := Lib.hid g3
    have hb4 := rd_byte2 w4 r G t3 hr
    have Hb4 := Lib.hid hb4
    have Hm04 := Lib.hid hm04
    have Hg4 := Lib.hid hg4
    have Hga4 := Lib.hid hga4
    clear hb4 hm04 hg4 hga4 g3 hr hm Hb3 Hgw3 Hga3 Hm03 Hr3 Hw3
    go_wp2_with fail
    refine Hb4.out.mono ?_
    rintro e w5 (⟨g4, rfl, hm⟩ | ⟨y, t4, g4, rfl, hr, hm⟩)
    · exact ⟨rfl, .inl ⟨by simp [readO, H1.out, H2.out, H3.out, g4], rfl, Hm04.out.trans hm (fun _ _ h => h)⟩⟩
    have hm05 := Hm04.out.trans hm (fun _ _ h => h)
    have hg5 := hm.heap Hg4.out (fun e : w2.heap.size = r => by omega)
    have hga5 := hm.heap Hga4.out (fun e : w.heap.size = r => by omega)
    have H4 := Lib.hid g4
    have Hm05 := Lib.hid hm05
    have Hga5 := Lib.hid hga5
    have Hr := Lib.hid hr
    clear hm05 hga5 hr g4 hm Hb4 Hg4 Hga4 Hm04
    have c16 : w5.cell? ⟨w2.heap.size, 16, none⟩ = some (.int .i64 0) := cell_of hg5 rfl
    have z16 : w5.frozen? ⟨w2.heap.size, 16, none⟩ = false := fr_of hg5
    have c17 : w5.cell? ⟨w2.heap.size, 17, none⟩ = some (.int .i64 0) := cell_of hg5 rfl
    have z17 : w5.frozen? ⟨w2.heap.size, 17, none⟩ = false := fr_of hg5
    obtain ⟨w6, hw6⟩ : ∃ q, (w5.setCell ⟨w2.heap.size, 16, none⟩ (.int .i64 x)).setCell ⟨w2.heap.size, 17, none⟩ (.int .i64 y) = q := ⟨_, rfl⟩
    have hg6 : w6.heap[w2.heap.size]? = some (.cells ([.int .i64 6, .int .i64 (te - 1), .string ⟨#[]⟩, .int .i64 0, .int .i64 0, .string ⟨#[]⟩, .int .i64 0, .string ⟨#[]⟩, .slice none 0 0, .string ⟨#[]⟩, .int .i64 0, .string ⟨#[]⟩, .slice none 0 0, .string ⟨#[]⟩, .slice none 0 0, .int .i64 0, .int .i64 x, .int .i64 y] : List Value).toArray 119 (0, 0)) := hw6 ▸ heap_set (heap_set hg5)
    have hm56 : Mod (fun k => k = w2.heap.size) w5 w6 := hw6 ▸ (((Mod.refl (fun k => k = w2.heap.size) w5).setCell (fun _ => rfl) _).setCell (fun _ => rfl) _)
    have hga6 := hm56.heap Hga5.out (fun e : w.heap.size = w2.heap.size => by omega)
    have Hw6 := Lib.hid hw6
    have Hg6 := Lib.hid hg6
    have Hm56 := Lib.hid hm56
    have Hga6 := Lib.hid hga6
    clear hw6 hg6 hm56 hga6 hg5 Hga5
    go_wp2_with (first | (rw [show World.setCell _ _ _ = w6 from Hw6.out]) | ((with_reducible refine wpList_load_lit 119 (.tmp 4) ?_); refine ⟨w2.heap.size, 0, rfl, [.int .i64 6, .int .i64 (te - 1), .string ⟨#[]⟩, .int .i64 0, .int .i64 0, .string ⟨#[]⟩, .int .i64 0, .string ⟨#[]⟩, .slice none 0 0, .string ⟨#[]⟩, .int .i64 0, .string ⟨#[]⟩, .slice none 0 0, .string ⟨#[]⟩, .slice none 0 0, .int .i64 0, .int .i64 x, .int .i64 y], CellsAt.row Hg6.out, by kernel_rfl, by kernel_rfl, ?_⟩) | ((with_reducible refine wpList_store_row_lit 119 (.tmp 2) (.tmp 66) ?_); refine ⟨w.heap.size, rfl, _, _, Hga6.out, [.int .i64 6, .int .i64 (te - 1), .string ⟨#[]⟩, .int .i64 0, .int .i64 0, .string ⟨#[]⟩, .int .i64 0, .string ⟨#[]⟩, .slice none 0 0, .string ⟨#[]⟩, .int .i64 0, .string ⟨#[]⟩, .slice none 0 0, .string ⟨#[]⟩, .slice none 0 0, .int .i64 0, .int .i64 x, .int .i64 y], rfl, rfl, by kernel_rfl, rfl, ?_⟩; intro w7 hg7 hm7; have Hg7 := Lib.hid hg7; have Hm7 := Lib.hid hm7; clear hg7 hm7) | fail)
    have hm67 := Hm7.out
    have hr7 := (Hr.out.new Hm56.out (B := w.heap.size) hrl hG (fun b hb => by omega)).new hm67 (B := w.heap.size) hrl hG (fun b hb => by omega)
    have hm07 := (Hm05.out.upon Hm56.out (fun b hb => .inr (by omega))).upon hm67 (fun b hb => .inr (by omega))
    refine bodyPost_ret (v := .tuple #[.agg ([.int .i64 6, .int .i64 (te - 1), .string ⟨#[]⟩, .int .i64 0, .int .i64 0, .string ⟨#[]⟩, .int .i64 0, .string ⟨#[]⟩, .slice none 0 0, .string ⟨#[]⟩, .int .i64 0, .string ⟨#[]⟩, .slice none 0 0, .string ⟨#[]⟩, .slice none 0 0, .int .i64 0, .int .i64 x, .int .i64 y] : List Value).toArray, .bool B]) ?_ rfl (.inr ⟨{ PO.mk0 6 (te - 1) with frm := x, to_ := y }, B, _, ⟨none, 0, none, 0, none, 0⟩, ?_, rfl, ?_, hr7, hm07⟩)
    · have hl := run_loadVar_cells (P := Tryz.prog) 119 w.heap.size 0 [.int .i64 6, .int .i64 (te - 1), .string ⟨#[]⟩, .int .i64 0, .int .i64 0, .string ⟨#[]⟩, .int .i64 0, .string ⟨#[]⟩, .slice none 0 0, .string ⟨#[]⟩, .int .i64 0, .string ⟨#[]⟩, .slice none 0 0, .string ⟨#[]⟩, .slice none 0 0, .int .i64 0, .int .i64 x, .int .i64 y] (CellsAt.row Hg7.out) (by kernel_rfl) (by kernel_rfl)
      simp [results, Tryz.results73, Result.andThen, asAddr, hl]
    · simp [readO, H1.out, H2.out, H3.out, H4.out, PO.mk0, hB]
    · exact ⟨OwnSl.nil _ _ _, OwnSl.nil _ _ _, OwnSl.nil _ _ _, fun b hb => (no_block _ _ b hb).elim, fun b hb => (no_block _ _ b hb).elim, fun b hb => (no_block _ _ b hb).elim⟩
  by_cases hk7 : k = 7
  · subst hk7
    have hb3 := rd_byte2 w3 r G t2 Hr3.out
    have c0 : w3.cell? ⟨w2.heap.size, 0, none⟩ = some (.int .i64 7) := cell_of Hgw3.out rfl
    have c1 : w3.cell? ⟨w2.heap.size, 1, none⟩ = some (.int .i64 (te - 1)) := cell_of Hgw3.out rfl
    have Hb3 := Lib.hid hb3
    clear hb3
    go_wp2_with (first | ((with_reducible refine wpList_store_lit 119 (.tmp 4) (.tmp 12) ?_); refine ⟨rfl, [.int .i64 7, .int .i64 (te - 1), .string ⟨#[]⟩, .int .i64 0, .int .i64 0, .string ⟨#[]⟩, .int .i64 0, .string ⟨#[]⟩, .slice none 0 0, .string ⟨#[]⟩, .int .i64 0, .string ⟨#[]⟩, .slice none 0 0, .string ⟨#[]⟩, .slice none 0 0, .int .i64 0, .int .i64 0, .int .i64 0], rfl, rfl, by kernel_rfl, rfl, ?_⟩; rw [Hw3.out]) | fail)
    clear c0 c1
    refine Hb3.out.mono ?_
    rintro e w4 (⟨g3, rfl, hm⟩ | ⟨x, t3, g3, rfl, hr, hm⟩)
    · exact ⟨rfl, .inl ⟨by simp [readO, H1.out, H2.out, g3], rfl, Hm03.out.trans hm (fun _ _ h => h)⟩⟩
    have hm04 := Hm03.out.trans hm (fun _ _ h => h)
    have hl4 : w2.heap.size < w4.heap.size := Nat.lt_of_lt_of_le (Array.getElem?_eq_some_iff.1 Hgw3.out).1 hm.size
    have hg4 := hm.heap Hgw3.out (fun e : w2.heap.size = r => by omega)
    have hga4 := hm.heap Hga3.out (fun e : w.heap.size = r => by omega)
    have H3 := Lib.hid g3
    have hb4 := rd_byte2 w4 r G t3 hr
    have Hb4 := Lib.hid hb4
    have Hm04 := Lib.hid hm04
    have Hg4 := Lib.hid hg4
    have Hga4 := Lib.hid hga4
    clear hb4 hm04 hg4 hga4 g3 hr hm Hb3 Hgw3 Hga3 Hm03 Hr3 Hw3
    go_wp2_with fail
    refine Hb4.out.mono ?_
    rintro e w5 (⟨g4, rfl, hm⟩ | ⟨y, t4, g4, rfl, hr, hm⟩)
    · exact ⟨rfl, .inl ⟨by simp [readO, H1.out, H2.out, H3.out, g4], rfl, Hm04.out.trans hm (fun _ _ h => h)⟩⟩
    have hm05 := Hm04.out.trans hm (fun _ _ h => h)
    have hg5 := hm.heap Hg4.out (fun e : w2.heap.size = r => by omega)
    have hga5 := hm.heap Hga4.out (fun e : w.heap.size = r => by omega)
    have H4 := Lib.hid g4
    have Hm05 := Lib.hid hm05
    have Hga5 := Lib.hid hga5
    have Hr := Lib.hid hr
    clear hm05 hga5 hr g4 hm Hb4 Hg4 Hga4 Hm04
    have c16 : w5.cell? ⟨w2.heap.size, 16, none⟩ = some (.int .i64 0) := cell_of hg5 rfl
    have z16 : w5.frozen? ⟨w2.heap.size, 16, none⟩ = false := fr_of hg5
    have c17 : w5.cell? ⟨w2.heap.size, 17, none⟩ = some (.int .i64 0) := cell_of hg5 rfl
    have z17 : w5.frozen? ⟨w2.heap.size, 17, none⟩ = false := fr_of hg5
    obtain ⟨w6, hw6⟩ : ∃ q, (w5.setCell ⟨w2.heap.size, 16, none⟩ (.int .i64 x)).setCell ⟨w2.heap.size, 17, none⟩ (.int .i64 y) = q := ⟨_, rfl⟩
    have hg6 : w6.heap[w2.heap.size]? = some (.cells ([.int .i64 7, .int .i64 (te - 1), .string ⟨#[]⟩, .int .i64 0, .int .i64 0, .string ⟨#[]⟩, .int .i64 0, .string ⟨#[]⟩, .slice none 0 0, .string ⟨#[]⟩, .int .i64 0, .string ⟨#[]⟩, .slice none 0 0, .string ⟨#[]⟩, .slice none 0 0, .int .i64 0, .int .i64 x, .int .i64 y] : List Value).toArray 119 (0, 0)) := hw6 ▸ heap_set (heap_set hg5)
    have hm56 : Mod (fun k => k = w2.heap.size) w5 w6 := hw6 ▸ (((Mod.refl (fun k => k = w2.heap.size) w5).setCell (fun _ => rfl) _).setCell (fun _ => rfl) _)
    have hga6 := hm56.heap Hga5.out (fun e : w.heap.size = w2.heap.size => by omega)
    have Hw6 := Lib.hid hw6
    have Hg6 := Lib.hid hg6
    have Hm56 := Lib.hid hm56
    have Hga6 := Lib.hid hga6
    clear hw6 hg6 hm56 hga6 hg5 Hga5
    go_wp2_with (first | (rw [show World.setCell _ _ _ = w6 from Hw6.out]) | ((with_reducible refine wpList_load_lit 119 (.tmp 4) ?_); refine ⟨w2.heap.size, 0, rfl, [.int .i64 7, .int .i64 (te - 1), .string ⟨#[]⟩, .int .i64 0, .int .i64 0, .string ⟨#[]⟩, .int .i64 0, .string ⟨#[]⟩, .slice none 0 0, .string ⟨#[]⟩, .int .i64 0, .string ⟨#[]⟩, .slice none 0 0, .string ⟨#[]⟩, .slice none 0 0, .int .i64 0, .int .i64 x, .int .i64 y], CellsAt.row Hg6.out, by kernel_rfl, by kernel_rfl, ?_⟩) | ((with_reducible refine wpList_store_row_lit 119 (.tmp 2) (.tmp 66) ?_); refine ⟨w.heap.size, rfl, _, _, Hga6.out, [.int .i64 7, .int .i64 (te - 1), .string ⟨#[]⟩, .int .i64 0, .int .i64 0, .string ⟨#[]⟩, .int .i64 0, .string ⟨#[]⟩, .slice none 0 0, .string ⟨#[]⟩, .int .i64 0, .string ⟨#[]⟩, .slice none 0 0, .string ⟨#[]⟩, .slice none 0 0, .int .i64 0, .int .i64 x, .int .i64 y], rfl, rfl, by kernel_rfl, rfl, ?_⟩; intro w7 hg7 hm7; have Hg7 := Lib.hid hg7; have Hm7 := Lib.hid hm7; clear hg7 hm7) | fail)
    have hm67 := Hm7.out
    have hr7 := (Hr.out.new Hm56.out (B := w.heap.size) hrl hG (fun b hb => by omega)).new hm67 (B := w.heap.size) hrl hG (fun b hb => by omega)
    have hm07 := (Hm05.out.upon Hm56.out (fun b hb => .inr (by omega))).upon hm67 (fun b hb => .inr (by omega))
    refine bodyPost_ret (v := .tuple #[.agg ([.int .i64 7, .int .i64 (te - 1), .string ⟨#[]⟩, .int .i64 0, .int .i64 0, .string ⟨#[]⟩, .int .i64 0, .string ⟨#[]⟩, .slice none 0 0, .string ⟨#[]⟩, .int .i64 0, .string ⟨#[]⟩, .slice none 0 0, .string ⟨#[]⟩, .slice none 0 0, .int .i64 0, .int .i64 x, .int .i64 y] : List Value).toArray, .bool B]) ?_ rfl (.inr ⟨{ PO.mk0 7 (te - 1) with frm := x, to_ := y }, B, _, ⟨none, 0, none, 0, none, 0⟩, ?_, rfl, ?_, hr7, hm07⟩)
    · have hl := run_loadVar_cells (P := Tryz.prog) 119 w.heap.size 0 [.int .i64 7, .int .i64 (te - 1), .string ⟨#[]⟩, .int .i64 0, .int .i64 0, .string ⟨#[]⟩, .int .i64 0, .string ⟨#[]⟩, .slice none 0 0, .string ⟨#[]⟩, .int .i64 0, .string ⟨#[]⟩, .slice none 0 0, .string ⟨#[]⟩, .slice none 0 0, .int .i64 0, .int .i64 x, .int .i64 y] (CellsAt.row Hg7.out) (by kernel_rfl) (by kernel_rfl)
      simp [results, Tryz.results73, Result.andThen, asAddr, hl]
    · simp [readO, H1.out, H2.out, H3.out, H4.out, PO.mk0, hB]
    · exact ⟨OwnSl.nil _ _ _, OwnSl.nil _ _ _, OwnSl.nil _ _ _, fun b hb => (no_block _ _ b hb).elim, fun b hb => (no_block _ _ b hb).elim, fun b hb => (no_block _ _ b hb).elim⟩
  exact absurd hKk (by omega)
end Go.Proofs.YtloplmaekonenaaGreatDoor
namespace Go.Proofs.YtloplmaekonenaaGreatDoor
set_option maxRecDepth 20000
open Go.RowKit
set_option maxRecDepth 20000 in
set_option maxHeartbeats 8000000 in
theorem next_C (w : World) (r G : Nat) (bs : List UInt8) (h : Rdr w r G bs) (hG : G < w.heap.size)
    (hK : ∀ k t, readB bs = some (k, t) → k = 3 ∨ k = 2) :
    Calls Tryz.prog 73 #[.pointer (some ⟨r, 0, none⟩)] w (NextPost w r G bs) := by
  have hrl := h.lt
  obtain ⟨wa, hwa⟩ : ∃ wa : World, w.alloc (.cells #[.int .i64 0, .int .i64 0, .string ⟨#[]⟩, .int .i64 0, .int .i64 0, .string ⟨#[]⟩, .int .i64 0, .string ⟨#[]⟩, .slice none 0 0, .string ⟨#[]⟩, .int .i64 0, .string ⟨#[]⟩, .slice none 0 0, .string ⟨#[]⟩, .slice none 0 0, .int .i64 0, .int .i64 0, .int .i64 0] 119) = wa := ⟨_, rfl⟩
  have hmwa : Mod (fun _ => False) w wa := hwa ▸ (Mod.refl (fun _ => False) w).alloc _
  have hgwa := heap_alloc_new w (.cells #[.int .i64 0, .int .i64 0, .string ⟨#[]⟩, .int .i64 0, .int .i64 0, .string ⟨#[]⟩, .int .i64 0, .string ⟨#[]⟩, .slice none 0 0, .string ⟨#[]⟩, .int .i64 0, .string ⟨#[]⟩, .slice none 0 0, .string ⟨#[]⟩, .slice none 0 0, .int .i64 0, .int .i64 0, .int .i64 0] 119)
  rw [hwa] at hgwa
  have hzwa : wa.heap.size = w.heap.size + 1 := by rw [← hwa]; simp
  have hra := h.new hmwa hrl hG (by simp)
  have hma : Mod (fun k => k = r) w wa := hmwa.mono (by simp)
  have hb1 := rd_byte2 wa r G bs hra
  have Hb1 := Lib.hid hb1
  have Hma := Lib.hid hma
  have Hgwa := Lib.hid hgwa
  have Hwa := Lib.hid hwa
  clear hb1 hma hgwa hwa h hra hmwa
  go_enter Tryz.func73, Tryz.ntmps73
  go_wp2_with fail
  rw [show w.alloc _ = wa from Hwa.out]
  refine Hb1.out.mono ?_
  rintro e w1 (⟨g1, rfl, hm⟩ | ⟨k, t1, g1, rfl, hr, hm⟩)
  · exact ⟨rfl, .inl ⟨by simp only [readO, g1, Option.bind_none], rfl, Hma.out.trans hm (fun _ _ h => h)⟩⟩
  have hm01 := Hma.out.trans hm (fun _ _ h => h)
  have hga1 := hm.heap Hgwa.out (fun e : w.heap.size = r => by omega)
  have hb := rd_byte2 w1 r G t1 hr
  have hk := (readB_back g1).2
  have H1 := Lib.hid g1
  have Hb2 := Lib.hid hb
  have Hm01 := Lib.hid hm01
  have Hga1 := Lib.hid hga1
  clear hb hm01 hr hm Hb1 g1 hga1 Hgwa Hwa Hma
  go_wp2_with fail
  refine Hb2.out.mono ?_
  rintro e w2 (⟨g2, rfl, hm⟩ | ⟨te, t2, g2, rfl, hr, hm⟩)
  · exact ⟨rfl, .inl ⟨by simp only [readO, H1.out, g2, Option.bind_some, Option.bind_none], rfl, Hm01.out.trans hm (fun _ _ h => h)⟩⟩
  have hm02 := Hm01.out.trans hm (fun _ _ h => h)
  have hga2 := hm.heap Hga1.out (fun e : w.heap.size = r => by omega)
  have hl2 : w.heap.size < w2.heap.size := (Array.getElem?_eq_some_iff.1 hga2).1
  have ht := (readB_back g2).2
  have H2 := Lib.hid g2
  clear hm Hm01 Hga1 Hb2 g2
  obtain ⟨B, hB⟩ : ∃ B, decide (te - 1 < 4) = B := ⟨_, rfl⟩
  obtain ⟨w3, hw3⟩ : ∃ w3 : World, w2.alloc (.cells #[.int .i64 k, .int .i64 (te - 1), .string ⟨#[]⟩, .int .i64 0, .int .i64 0, .string ⟨#[]⟩, .int .i64 0, .string ⟨#[]⟩, .slice none 0 0, .string ⟨#[]⟩, .int .i64 0, .string ⟨#[]⟩, .slice none 0 0, .string ⟨#[]⟩, .slice none 0 0, .int .i64 0, .int .i64 0, .int .i64 0] 119) = w3 := ⟨_, rfl⟩
  have hmw3 : Mod (fun _ => False) w2 w3 := hw3 ▸ (Mod.refl (fun _ => False) w2).alloc _
  have hgw3 := heap_alloc_new w2 (.cells #[.int .i64 k, .int .i64 (te - 1), .string ⟨#[]⟩, .int .i64 0, .int .i64 0, .string ⟨#[]⟩, .int .i64 0, .string ⟨#[]⟩, .slice none 0 0, .string ⟨#[]⟩, .int .i64 0, .string ⟨#[]⟩, .slice none 0 0, .string ⟨#[]⟩, .slice none 0 0, .int .i64 0, .int .i64 0, .int .i64 0] 119)
  rw [hw3] at hgw3
  have hzw3 : w3.heap.size = w2.heap.size + 1 := by rw [← hw3]; simp
  have hr3 := hr.new hmw3 (B := w.heap.size) hrl hG (by simp)
  have hm03 := hm02.trans (hmw3.mono (by simp)) (fun _ _ h => h)
  have hga3 := hmw3.heap hga2 (fun h => h)
  have hs3 : G < w3.heap.size := by omega
  have Hr3 := Lib.hid hr3
  have Hm03 := Lib.hid hm03
  have Hga3 := Lib.hid hga3
  have Hgw3 := Lib.hid hgw3
  have Hw3 := Lib.hid hw3
  have Hs3 := Lib.hid hs3
  clear hr3 hm03 hga3 hgw3 hw3 hs3 hga2 hm02 hr hmw3 hzw3
  have hKk := hK _ _ H1.out
  by_cases hk3 : k = 3
  · subst hk3
    have hb3 := rd_text2 w3 r G t2 Hr3.out
    have c0 : w3.cell? ⟨w2.heap.size, 0, none⟩ = some (.int .i64 3) := cell_of Hgw3.out rfl
    have c1 : w3.cell? ⟨w2.heap.size, 1, none⟩ = some (.int .i64 (te - 1)) := cell_of Hgw3.out rfl
    have Hb3 := Lib.hid hb3
    clear hb3
    go_wp2_with (first | ((with_reducible refine wpList_store_lit 119 (.tmp 4) (.tmp 12) ?_); refine ⟨rfl, [.int .i64 3, .int .i64 (te - 1), .string ⟨#[]⟩, .int .i64 0, .int .i64 0, .string ⟨#[]⟩, .int .i64 0, .string ⟨#[]⟩, .slice none 0 0, .string ⟨#[]⟩, .int .i64 0, .string ⟨#[]⟩, .slice none 0 0, .string ⟨#[]⟩, .slice none 0 0, .int .i64 0, .int .i64 0, .int .i64 0], rfl, rfl, by kernel_rfl, rfl, ?_⟩; rw [Hw3.out]) | fail)
    clear c0 c1
    refine Hb3.out.mono ?_
    rintro e w4 (⟨g3, rfl, hm⟩ | ⟨s, t3, g3, hsz, rfl, hr, hm⟩)
    · exact ⟨rfl, .inl ⟨by simp [readO, H1.out, H2.out, g3], rfl, Hm03.out.trans hm (fun _ _ h => h)⟩⟩
    have hm04 := Hm03.out.trans hm (fun _ _ h => h)
    have hl4 : w2.heap.size < w4.heap.size := Nat.lt_of_lt_of_le (Array.getElem?_eq_some_iff.1 Hgw3.out).1 hm.size
    have hg4 := hm.heap Hgw3.out (fun e : w2.heap.size = r => by omega)
    have hga4 := hm.heap Hga3.out (fun e : w.heap.size = r => by omega)
    have H3 := Lib.hid g3
    have hb4 := rd_byte2 w4 r G t3 hr
    have Hb4 := Lib.hid hb4
    have Hm04 := Lib.hid hm04
    have Hg4 := Lib.hid hg4
    have Hga4 := Lib.hid hga4
    clear hb4 hm04 hg4 hga4 g3 hr hm Hb3 Hgw3 Hga3 Hm03 Hr3 Hw3
    go_wp2_with fail
    refine Hb4.out.mono ?_
    rintro e w5 (⟨g4, rfl, hm⟩ | ⟨y, t4, g4, rfl, hr, hm⟩)
    · exact ⟨rfl, .inl ⟨by simp [readO, H1.out, H2.out, H3.out, g4], rfl, Hm04.out.trans hm (fun _ _ h => h)⟩⟩
    have hm05 := Hm04.out.trans hm (fun _ _ h => h)
    have hg5 := hm.heap Hg4.out (fun e : w2.heap.size = r => by omega)
    have hga5 := hm.heap Hga4.out (fun e : w.heap.size = r => by omega)
    have H4 := Lib.hid g4
    have Hm05 := Lib.hid hm05
    have Hga5 := Lib.hid hga5
    have Hr := Lib.hid hr
    clear hm05 hga5 hr g4 hm Hb4 Hg4 Hga4 Hm04
    have c2 : w5.cell? ⟨w2.heap.size, 2, none⟩ = some (.string ⟨#[]⟩) := cell_of hg5 rfl
    have z2 : w5.frozen? ⟨w2.heap.size, 2, none⟩ = false := fr_of hg5
    have c15 : w5.cell? ⟨w2.heap.size, 15, none⟩ = some (.int .i64 0) := cell_of hg5 rfl
    have z15 : w5.frozen? ⟨w2.heap.size, 15, none⟩ = false := fr_of hg5
    obtain ⟨w6, hw6⟩ : ∃ q, (w5.setCell ⟨w2.heap.size, 2, none⟩ (.string s)).setCell ⟨w2.heap.size, 15, none⟩ (.int .i64 y) = q := ⟨_, rfl⟩
    have hg6 : w6.heap[w2.heap.size]? = some (.cells ([.int .i64 3, .int .i64 (te - 1), .string s, .int .i64 0, .int .i64 0, .string ⟨#[]⟩, .int .i64 0, .string ⟨#[]⟩, .slice none 0 0, .string ⟨#[]⟩, .int .i64 0, .string ⟨#[]⟩, .slice none 0 0, .string ⟨#[]⟩, .slice none 0 0, .int .i64 y, .int .i64 0, .int .i64 0] : List Value).toArray 119 (0, 0)) := hw6 ▸ heap_set (heap_set hg5)
    have hm56 : Mod (fun k => k = w2.heap.size) w5 w6 := hw6 ▸ (((Mod.refl (fun k => k = w2.heap.size) w5).setCell (fun _ => rfl) _).setCell (fun _ => rfl) _)
    have hga6 := hm56.heap Hga5.out (fun e : w.heap.size = w2.heap.size => by omega)
    have Hw6 := Lib.hid hw6
    have Hg6 := Lib.hid hg6
    have Hm56 := Lib.hid hm56
    have Hga6 := Lib.hid hga6
    clear hw6 hg6 hm56 hga6 hg5 Hga5
    go_wp2_with (first | (rw [show World.setCell _ _ _ = w6 from Hw6.out]) | ((with_reducible refine wpList_load_lit 119 (.tmp 4) ?_); refine ⟨w2.heap.size, 0, rfl, [.int .i64 3, .int .i64 (te - 1), .string s, .int .i64 0, .int .i64 0, .string ⟨#[]⟩, .int .i64 0, .string ⟨#[]⟩, .slice none 0 0, .string ⟨#[]⟩, .int .i64 0, .string ⟨#[]⟩, .slice none 0 0, .string ⟨#[]⟩, .slice none 0 0, .int .i64 y, .int .i64 0, .int .i64 0], CellsAt.row Hg6.out, by kernel_rfl, by kernel_rfl, ?_⟩) | ((with_reducible refine wpList_store_row_lit 119 (.tmp 2) (.tmp 66) ?_); refine ⟨w.heap.size, rfl, _, _, Hga6.out, [.int .i64 3, .int .i64 (te - 1), .string s, .int .i64 0, .int .i64 0, .string ⟨#[]⟩, .int .i64 0, .string ⟨#[]⟩, .slice none 0 0, .string ⟨#[]⟩, .int .i64 0, .string ⟨#[]⟩, .slice none 0 0, .string ⟨#[]⟩, .slice none 0 0, .int .i64 y, .int .i64 0, .int .i64 0], rfl, rfl, by kernel_rfl, rfl, ?_⟩; intro w7 hg7 hm7; have Hg7 := Lib.hid hg7; have Hm7 := Lib.hid hm7; clear hg7 hm7) | fail)
    have hm67 := Hm7.out
    have hr7 := (Hr.out.new Hm56.out (B := w.heap.size) hrl hG (fun b hb => by omega)).new hm67 (B := w.heap.size) hrl hG (fun b hb => by omega)
    have hm07 := (Hm05.out.upon Hm56.out (fun b hb => .inr (by omega))).upon hm67 (fun b hb => .inr (by omega))
    refine bodyPost_ret (v := .tuple #[.agg ([.int .i64 3, .int .i64 (te - 1), .string s, .int .i64 0, .int .i64 0, .string ⟨#[]⟩, .int .i64 0, .string ⟨#[]⟩, .slice none 0 0, .string ⟨#[]⟩, .int .i64 0, .string ⟨#[]⟩, .slice none 0 0, .string ⟨#[]⟩, .slice none 0 0, .int .i64 y, .int .i64 0, .int .i64 0] : List Value).toArray, .bool B]) ?_ rfl (.inr ⟨{ PO.mk0 3 (te - 1) with who := s, sub := y }, B, _, ⟨none, 0, none, 0, none, 0⟩, ?_, rfl, ?_, hr7, hm07⟩)
    · have hl := run_loadVar_cells (P := Tryz.prog) 119 w.heap.size 0 [.int .i64 3, .int .i64 (te - 1), .string s, .int .i64 0, .int .i64 0, .string ⟨#[]⟩, .int .i64 0, .string ⟨#[]⟩, .slice none 0 0, .string ⟨#[]⟩, .int .i64 0, .string ⟨#[]⟩, .slice none 0 0, .string ⟨#[]⟩, .slice none 0 0, .int .i64 y, .int .i64 0, .int .i64 0] (CellsAt.row Hg7.out) (by kernel_rfl) (by kernel_rfl)
      simp [results, Tryz.results73, Result.andThen, asAddr, hl]
    · simp [readO, H1.out, H2.out, H3.out, H4.out, PO.mk0, hB]
    · exact ⟨OwnSl.nil _ _ _, OwnSl.nil _ _ _, OwnSl.nil _ _ _, fun b hb => (no_block _ _ b hb).elim, fun b hb => (no_block _ _ b hb).elim, fun b hb => (no_block _ _ b hb).elim⟩
  by_cases hk2 : k = 2
  · subst hk2
    have hb3 := rd_text2 w3 r G t2 Hr3.out
    have c0 : w3.cell? ⟨w2.heap.size, 0, none⟩ = some (.int .i64 2) := cell_of Hgw3.out rfl
    have c1 : w3.cell? ⟨w2.heap.size, 1, none⟩ = some (.int .i64 (te - 1)) := cell_of Hgw3.out rfl
    have Hb3 := Lib.hid hb3
    clear hb3
    go_wp2_with (first | ((with_reducible refine wpList_store_lit 119 (.tmp 4) (.tmp 12) ?_); refine ⟨rfl, [.int .i64 2, .int .i64 (te - 1), .string ⟨#[]⟩, .int .i64 0, .int .i64 0, .string ⟨#[]⟩, .int .i64 0, .string ⟨#[]⟩, .slice none 0 0, .string ⟨#[]⟩, .int .i64 0, .string ⟨#[]⟩, .slice none 0 0, .string ⟨#[]⟩, .slice none 0 0, .int .i64 0, .int .i64 0, .int .i64 0], rfl, rfl, by kernel_rfl, rfl, ?_⟩; rw [Hw3.out]) | fail)
    clear c0 c1
    refine Hb3.out.mono ?_
    rintro e w4 (⟨g3, rfl, hm⟩ | ⟨s, t3, g3, hsz, rfl, hr, hm⟩)
    · exact ⟨rfl, .inl ⟨by simp [readO, H1.out, H2.out, g3], rfl, Hm03.out.trans hm (fun _ _ h => h)⟩⟩
    have hm04 := Hm03.out.trans hm (fun _ _ h => h)
    have hl4 : w2.heap.size < w4.heap.size := Nat.lt_of_lt_of_le (Array.getElem?_eq_some_iff.1 Hgw3.out).1 hm.size
    have hg4 := hm.heap Hgw3.out (fun e : w2.heap.size = r => by omega)
    have hga4 := hm.heap Hga3.out (fun e : w.heap.size = r => by omega)
    have H3 := Lib.hid g3
    have hb4 := rd_filter w4 r G t3 hr (by omega)
    have Hb4 := Lib.hid hb4
    have Hm04 := Lib.hid hm04
    have Hg4 := Lib.hid hg4
    have Hga4 := Lib.hid hga4
    clear hb4 hm04 hg4 hga4 g3 hr hm Hb3 Hgw3 Hga3 Hm03 Hr3 Hw3
    go_wp2_with fail
    refine Hb4.out.mono ?_
    rintro e w5 (⟨g4, rfl, hm⟩ | ⟨sc, l, t4, av, g4, hsc, rfl, hown, hfr, hr, hm⟩)
    · exact ⟨rfl, .inl ⟨by simp [readO, H1.out, H2.out, H3.out, g4], rfl, Hm04.out.trans hm (fun _ _ h => h)⟩⟩
    have hm05 := Hm04.out.trans hm (fun _ _ h => h)
    have hg5 := hm.heap Hg4.out (fun e : w2.heap.size = r => by omega)
    have hga5 := hm.heap Hga4.out (fun e : w.heap.size = r => by omega)
    have H4 := Lib.hid g4
    have Hm05 := Lib.hid hm05
    have Hga5 := Lib.hid hga5
    have Hr := Lib.hid hr
    clear hm05 hga5 hr g4 hm Hb4 Hg4 Hga4 Hm04
    obtain ⟨ea, ec, rfl, -⟩ := hown.shape
    have Hown := Lib.hid hown
    have Hfr := Lib.hid hfr
    clear hown hfr
    have c2 : w5.cell? ⟨w2.heap.size, 2, none⟩ = some (.string ⟨#[]⟩) := cell_of hg5 rfl
    have z2 : w5.frozen? ⟨w2.heap.size, 2, none⟩ = false := fr_of hg5
    obtain ⟨u5, hu5⟩ : ∃ q, w5.setCell ⟨w2.heap.size, 2, none⟩ (.string s) = q := ⟨_, rfl⟩
    have hgu5 : u5.heap[w2.heap.size]? = some (.cells ([.int .i64 2, .int .i64 (te - 1), .string s, .int .i64 0, .int .i64 0, .string ⟨#[]⟩, .int .i64 0, .string ⟨#[]⟩, .slice none 0 0, .string ⟨#[]⟩, .int .i64 0, .string ⟨#[]⟩, .slice none 0 0, .string ⟨#[]⟩, .slice none 0 0, .int .i64 0, .int .i64 0, .int .i64 0] : List Value).toArray 119 (0, 0)) := hu5 ▸ heap_set hg5
    have hm5u : Mod (fun k => k = w2.heap.size) w5 u5 := hu5 ▸ (Mod.refl (fun k => k = w2.heap.size) w5).setCell (fun _ => rfl) _
    have Hu5 := Lib.hid hu5
    have Hgu5 := Lib.hid hgu5
    have Hm5u := Lib.hid hm5u
    clear hu5 hgu5 hm5u hg5
    go_wp2_with (first | (rw [show World.setCell _ _ _ = u5 from Hu5.out]) | ((with_reducible refine wpList_store_part_lit 29 (.tmp 46) (.tmp 44) ?_); refine ⟨w2.heap.size, 13, rfl, _, _, Hgu5.out, [.string sc, .slice ea l.length ec], rfl, Nat.le_of_ble_eq_true rfl, by kernel_rfl, rfl, ?_⟩; intro w6 he6 hmu; have hg6 : w6.heap[w2.heap.size]? = some (.cells ([.int .i64 2, .int .i64 (te - 1), .string s, .int .i64 0, .int .i64 0, .string ⟨#[]⟩, .int .i64 0, .string ⟨#[]⟩, .slice none 0 0, .string ⟨#[]⟩, .int .i64 0, .string ⟨#[]⟩, .slice none 0 0, .string sc, .slice ea l.length ec, .int .i64 0, .int .i64 0, .int .i64 0] : List Value).toArray 119 (0, 0)) := he6 ▸ setRow_heap u5 w2.heap.size _ _ _ _ Hgu5.out; have hm56 : Mod (fun k => k = w2.heap.size) w5 w6 := Hm5u.out.trans hmu (fun _ _ h => h); have hga6 := hm56.heap Hga5.out (fun e : w.heap.size = w2.heap.size => by omega); have Hg6 := Lib.hid hg6; have Hm56 := Lib.hid hm56; have Hga6 := Lib.hid hga6; clear he6 hmu hg6 hm56 hga6) | ((with_reducible refine wpList_load_lit 119 (.tmp 4) ?_); refine ⟨w2.heap.size, 0, rfl, [.int .i64 2, .int .i64 (te - 1), .string s, .int .i64 0, .int .i64 0, .string ⟨#[]⟩, .int .i64 0, .string ⟨#[]⟩, .slice none 0 0, .string ⟨#[]⟩, .int .i64 0, .string ⟨#[]⟩, .slice none 0 0, .string sc, .slice ea l.length ec, .int .i64 0, .int .i64 0, .int .i64 0], CellsAt.row Hg6.out, by kernel_rfl, by kernel_rfl, ?_⟩) | ((with_reducible refine wpList_store_row_lit 119 (.tmp 2) (.tmp 66) ?_); refine ⟨w.heap.size, rfl, _, _, Hga6.out, [.int .i64 2, .int .i64 (te - 1), .string s, .int .i64 0, .int .i64 0, .string ⟨#[]⟩, .int .i64 0, .string ⟨#[]⟩, .slice none 0 0, .string ⟨#[]⟩, .int .i64 0, .string ⟨#[]⟩, .slice none 0 0, .string sc, .slice ea l.length ec, .int .i64 0, .int .i64 0, .int .i64 0], rfl, rfl, by kernel_rfl, rfl, ?_⟩; intro w7 hg7 hm7; have Hg7 := Lib.hid hg7; have Hm7 := Lib.hid hm7; clear hg7 hm7) | fail)
    have hm67 := Hm7.out
    have hr7 := (Hr.out.new Hm56.out (B := w.heap.size) hrl hG (fun b hb => by omega)).new hm67 (B := w.heap.size) hrl hG (fun b hb => by omega)
    have hm07 := (Hm05.out.upon Hm56.out (fun b hb => .inr (by omega))).upon hm67 (fun b hb => .inr (by omega))
    refine bodyPost_ret (v := .tuple #[.agg ([.int .i64 2, .int .i64 (te - 1), .string s, .int .i64 0, .int .i64 0, .string ⟨#[]⟩, .int .i64 0, .string ⟨#[]⟩, .slice none 0 0, .string ⟨#[]⟩, .int .i64 0, .string ⟨#[]⟩, .slice none 0 0, .string sc, .slice ea l.length ec, .int .i64 0, .int .i64 0, .int .i64 0] : List Value).toArray, .bool B]) ?_ rfl (.inr ⟨{ PO.mk0 2 (te - 1) with who := s, fsc := sc, fs := l }, B, _, ⟨none, 0, none, 0, ea, ec⟩, ?_, rfl, ?_, hr7, hm07⟩)
    · have hl := run_loadVar_cells (P := Tryz.prog) 119 w.heap.size 0 [.int .i64 2, .int .i64 (te - 1), .string s, .int .i64 0, .int .i64 0, .string ⟨#[]⟩, .int .i64 0, .string ⟨#[]⟩, .slice none 0 0, .string ⟨#[]⟩, .int .i64 0, .string ⟨#[]⟩, .slice none 0 0, .string sc, .slice ea l.length ec, .int .i64 0, .int .i64 0, .int .i64 0] (CellsAt.row Hg7.out) (by kernel_rfl) (by kernel_rfl)
      simp [results, Tryz.results73, Result.andThen, asAddr, hl]
    · simp [readO, H1.out, H2.out, H3.out, H4.out, PO.mk0, hB]
    · exact ⟨OwnSl.nil _ _ _, OwnSl.nil _ _ _, (Hown.out.mod Hm56.out (fun b hb (e : b = w2.heap.size) => by have := Hfr.out b hb; omega)).mod hm67 (fun b hb (e : b = w.heap.size) => by have := Hfr.out b hb; omega), fun b hb => (no_block _ _ b hb).elim, fun b hb => (no_block _ _ b hb).elim, fun b hb => by have := Hfr.out b hb; omega⟩
  exact absurd hKk (by omega)
end Go.Proofs.YtloplmaekonenaaGreatDoor
