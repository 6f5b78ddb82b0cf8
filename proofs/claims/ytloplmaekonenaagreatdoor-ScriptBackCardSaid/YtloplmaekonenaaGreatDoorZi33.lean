/-
  The next op of bytes: some kinds.
  The next op of bytes: kinds that are none.
  The next op of bytes.
  Ops in memory.
-/
import Derived.Test.YtloplmaekonenaaGreatDoorZi31
import Derived.Test.YtloplmaekonenaaGreatDoorZi32
namespace Go.Proofs.YtloplmaekonenaaGreatDoor
set_option maxRecDepth 20000
open Go.RowKit
set_option maxRecDepth 20000 in
set_option maxHeartbeats 8000000 in
theorem next_E (w : World) (r G : Nat) (bs : List UInt8) (h : Rdr w r G bs) (hG : G < w.heap.size)
    (hK : ∀ k t, readB bs = some (k, t) → k = 1 ∨ k = 0) :
    Calls Tryz.prog 73 #[.pointer (some ⟨r, 0, none⟩)] w (NextPost w r G bs) := by
  have hrl := h.lt
  obtain ⟨wa, hwa⟩ : ∃ wa : World, w.alloc (.cells #[.int .i64 0, .int .i64 0, .string ⟨#[]⟩, .int .i64 0, .int .i64 0, .string ⟨#[]⟩, .int .i64 0, .string ⟨#[]⟩, .slice none 0 0, .string ⟨#[]⟩, .int .i64 0, .string ⟨#[]⟩, .slice none 0 0, .string ⟨#[]⟩, .slice none 0 0, .int .i64 0, .int .i64 0, .int .i64 0] 119) = wa := ⟨_, rfl⟩
  have hmwa : Mod (fun _ => False) w wa := hwa ▸ (Mod.refl (fun _ => False) w).alloc _
  have hgwa := heap_alloc_new w (.cells #[.int .i64 0, .int .i64 0, .string ⟨#[]⟩, .int .i64 0, .int .i64 0, .string ⟨#[]⟩, .int .i64 0, .string ⟨#[]⟩, .slice none 0 0, .string ⟨#[]⟩, .int .i64 0, .string ⟨#[]⟩, .slice none 0 0, .string ⟨#[]⟩, .slice none 0 0, .int .i64 0, .int .i64 0, .int .i64 0] 119)
  rw [hwa] at hgwa
  have hzwa : wa.heap.size = w.heap.size + 1 := by rw [← hwa]; simp
  have hra := h.new hmwa hrl hG (by simp)
  have hma : Mod (fun k => k = r) w wa := hmwa.mono (by simp)
  have hb1 := rd_byte2 wa r G bs hra
  have Hb1 := Lib.hid hb1
  have Hma := Lib.hid hma
  have Hgwa := Lib.hid hgwa
  have Hwa := Lib.hid hwa
  clear hb1 hma hgwa hwa h hra hmwa
  go_enter Tryz.func73, Tryz.ntmps73
  go_wp2_with fail
  rw [show w.alloc _ = wa from Hwa.out]
  refine Hb1.out.mono ?_
  rintro e w1 (⟨g1, rfl, hm⟩ | ⟨k, t1, g1, rfl, hr, hm⟩)
  · exact ⟨rfl, .inl ⟨by simp only [readO, g1, Option.bind_none], rfl, Hma.out.trans hm (fun _ _ h => h)⟩⟩
  have hm01 := Hma.out.trans hm (fun _ _ h => h)
  have hga1 := hm.heap Hgwa.out (fun e : w.heap.size = r => by omega)
  have hb := rd_byte2 w1 r G t1 hr
  have hk := (readB_back g1).2
  have H1 := Lib.hid g1
  have Hb2 := Lib.hid hb
  have Hm01 := Lib.hid hm01
  have Hga1 := Lib.hid hga1
  clear hb hm01 hr hm Hb1 g1 hga1 Hgwa Hwa Hma
  go_wp2_with fail
  refine Hb2.out.mono ?_
  rintro e w2 (⟨g2, rfl, hm⟩ | ⟨te, t2, g2, rfl, hr, hm⟩)
  · exact ⟨rfl, .inl ⟨by simp only [readO, H1.out, g2, Option.bind_some, Option.bind_none], rfl, Hm01.out.trans hm (fun _ _ h => h)⟩⟩
  have hm02 := Hm01.out.trans hm (fun _ _ h => h)
  have hga2 := hm.heap Hga1.out (fun e : w.heap.size = r => by omega)
  have hl2 : w.heap.size < w2.heap.size := (Array.getElem?_eq_some_iff.1 hga2).1
  have ht := (readB_back g2).2
  have H2 := Lib.hid g2
  clear hm Hm01 Hga1 Hb2 g2
  obtain ⟨B, hB⟩ : ∃ B, decide (te - 1 < 4) = B := ⟨_, rfl⟩
  obtain ⟨w3, hw3⟩ : ∃ w3 : World, w2.alloc (.cells #[.int .i64 k, .int .i64 (te - 1), .string ⟨#[]⟩, .int .i64 0, .int .i64 0, .string ⟨#[]⟩, .int .i64 0, .string ⟨#[]⟩, .slice none 0 0, .string ⟨#[]⟩, .int .i64 0, .string ⟨#[]⟩, .slice none 0 0, .string ⟨#[]⟩, .slice none 0 0, .int .i64 0, .int .i64 0, .int .i64 0] 119) = w3 := ⟨_, rfl⟩
  have hmw3 : Mod (fun _ => False) w2 w3 := hw3 ▸ (Mod.refl (fun _ => False) w2).alloc _
  have hgw3 := heap_alloc_new w2 (.cells #[.int .i64 k, .int .i64 (te - 1), .string ⟨#[]⟩, .int .i64 0, .int .i64 0, .string ⟨#[]⟩, .int .i64 0, .string ⟨#[]⟩, .slice none 0 0, .string ⟨#[]⟩, .int .i64 0, .string ⟨#[]⟩, .slice none 0 0, .string ⟨#[]⟩, .slice none 0 0, .int .i64 0, .int .i64 0, .int .i64 0] 119)
  rw [hw3] at hgw3
  have hzw3 : w3.heap.size = w2.heap.size + 1 := by rw [← hw3]; simp
  have hr3 := hr.new hmw3 (B := w.heap.size) hrl hG (by simp)
  have hm03 := hm02.trans (hmw3.mono (by simp)) (fun _ _ h => h)
  have hga3 := hmw3.heap hga2 (fun h => h)
  have hs3 : G < w3.heap.size := by omega
  have Hr3 := Lib.hid hr3
  have Hm03 := Lib.hid hm03
  have Hga3 := Lib.hid hga3
  have Hgw3 := Lib.hid hgw3
  have Hw3 := Lib.hid hw3
  have Hs3 := Lib.hid hs3
  clear hr3 hm03 hga3 hgw3 hw3 hs3 hga2 hm02 hr hmw3 hzw3
  have hKk := hK _ _ H1.out
  by_cases hk1 : k = 1
  · subst hk1
    have hb3 := rd_text2 w3 r G t2 Hr3.out
    have c0 : w3.cell? ⟨w2.heap.size, 0, none⟩ = some (.int .i64 1) := cell_of Hgw3.out rfl
    have c1 : w3.cell? ⟨w2.heap.size, 1, none⟩ = some (.int .i64 (te - 1)) := cell_of Hgw3.out rfl
    have Hb3 := Lib.hid hb3
    clear hb3
    go_wp2_with (first | ((with_reducible refine wpList_store_lit 119 (.tmp 4) (.tmp 12) ?_); refine ⟨rfl, [.int .i64 1, .int .i64 (te - 1), .string ⟨#[]⟩, .int .i64 0, .int .i64 0, .string ⟨#[]⟩, .int .i64 0, .string ⟨#[]⟩, .slice none 0 0, .string ⟨#[]⟩, .int .i64 0, .string ⟨#[]⟩, .slice none 0 0, .string ⟨#[]⟩, .slice none 0 0, .int .i64 0, .int .i64 0, .int .i64 0], rfl, rfl, by kernel_rfl, rfl, ?_⟩; rw [Hw3.out]) | fail)
    clear c0 c1
    refine Hb3.out.mono ?_
    rintro e w4 (⟨g3, rfl, hm⟩ | ⟨s, t3, g3, hsz, rfl, hr, hm⟩)
    · exact ⟨rfl, .inl ⟨by simp [readO, H1.out, H2.out, g3], rfl, Hm03.out.trans hm (fun _ _ h => h)⟩⟩
    have hm04 := Hm03.out.trans hm (fun _ _ h => h)
    have hl4 : w2.heap.size < w4.heap.size := Nat.lt_of_lt_of_le (Array.getElem?_eq_some_iff.1 Hgw3.out).1 hm.size
    have hg4 := hm.heap Hgw3.out (fun e : w2.heap.size = r => by omega)
    have hga4 := hm.heap Hga3.out (fun e : w.heap.size = r => by omega)
    have H3 := Lib.hid g3
    have hb4 := rd_event w4 r G t3 hr (by omega)
    have Hb4 := Lib.hid hb4
    have Hm04 := Lib.hid hm04
    have Hg4 := Lib.hid hg4
    have Hga4 := Lib.hid hga4
    clear hb4 hm04 hg4 hga4 g3 hr hm Hb3 Hgw3 Hga3 Hm03 Hr3 Hw3
    go_wp2_with fail
    refine Hb4.out.mono ?_
    rintro e w5 (⟨g4, rfl, hm⟩ | ⟨sc, l, t4, av, g4, hsc, rfl, hown, hfr, hr, hm⟩)
    · exact ⟨rfl, .inl ⟨by simp [readO, H1.out, H2.out, H3.out, g4], rfl, Hm04.out.trans hm (fun _ _ h => h)⟩⟩
    have hm05 := Hm04.out.trans hm (fun _ _ h => h)
    have hg5 := hm.heap Hg4.out (fun e : w2.heap.size = r => by omega)
    have hga5 := hm.heap Hga4.out (fun e : w.heap.size = r => by omega)
    have H4 := Lib.hid g4
    have Hm05 := Lib.hid hm05
    have Hga5 := Lib.hid hga5
    have Hr := Lib.hid hr
    clear hm05 hga5 hr g4 hm Hb4 Hg4 Hga4 Hm04
    obtain ⟨ea, ec, rfl, -⟩ := hown.shape
    have Hown := Lib.hid hown
    have Hfr := Lib.hid hfr
    clear hown hfr
    have c2 : w5.cell? ⟨w2.heap.size, 2, none⟩ = some (.string ⟨#[]⟩) := cell_of hg5 rfl
    have z2 : w5.frozen? ⟨w2.heap.size, 2, none⟩ = false := fr_of hg5
    obtain ⟨u5, hu5⟩ : ∃ q, w5.setCell ⟨w2.heap.size, 2, none⟩ (.string s) = q := ⟨_, rfl⟩
    have hgu5 : u5.heap[w2.heap.size]? = some (.cells ([.int .i64 1, .int .i64 (te - 1), .string s, .int .i64 0, .int .i64 0, .string ⟨#[]⟩, .int .i64 0, .string ⟨#[]⟩, .slice none 0 0, .string ⟨#[]⟩, .int .i64 0, .string ⟨#[]⟩, .slice none 0 0, .string ⟨#[]⟩, .slice none 0 0, .int .i64 0, .int .i64 0, .int .i64 0] : List Value).toArray 119 (0, 0)) := hu5 ▸ heap_set hg5
    have hm5u : Mod (fun k => k = w2.heap.size) w5 u5 := hu5 ▸ (Mod.refl (fun k => k = w2.heap.size) w5).setCell (fun _ => rfl) _
    have Hu5 := Lib.hid hu5
    have Hgu5 := Lib.hid hgu5
    have Hm5u := Lib.hid hm5u
    clear hu5 hgu5 hm5u hg5
    go_wp2_with (first | (rw [show World.setCell _ _ _ = u5 from Hu5.out]) | ((with_reducible refine wpList_store_part_lit 32 (.tmp 38) (.tmp 36) ?_); refine ⟨w2.heap.size, 11, rfl, _, _, Hgu5.out, [.string sc, .slice ea l.length ec], rfl, Nat.le_of_ble_eq_true rfl, by kernel_rfl, rfl, ?_⟩; intro w6 he6 hmu; have hg6 : w6.heap[w2.heap.size]? = some (.cells ([.int .i64 1, .int .i64 (te - 1), .string s, .int .i64 0, .int .i64 0, .string ⟨#[]⟩, .int .i64 0, .string ⟨#[]⟩, .slice none 0 0, .string ⟨#[]⟩, .int .i64 0, .string sc, .slice ea l.length ec, .string ⟨#[]⟩, .slice none 0 0, .int .i64 0, .int .i64 0, .int .i64 0] : List Value).toArray 119 (0, 0)) := he6 ▸ setRow_heap u5 w2.heap.size _ _ _ _ Hgu5.out; have hm56 : Mod (fun k => k = w2.heap.size) w5 w6 := Hm5u.out.trans hmu (fun _ _ h => h); have hga6 := hm56.heap Hga5.out (fun e : w.heap.size = w2.heap.size => by omega); have Hg6 := Lib.hid hg6; have Hm56 := Lib.hid hm56; have Hga6 := Lib.hid hga6; clear he6 hmu hg6 hm56 hga6) | ((with_reducible refine wpList_load_lit 119 (.tmp 4) ?_); refine ⟨w2.heap.size, 0, rfl, [.int .i64 1, .int .i64 (te - 1), .string s, .int .i64 0, .int .i64 0, .string ⟨#[]⟩, .int .i64 0, .string ⟨#[]⟩, .slice none 0 0, .string ⟨#[]⟩, .int .i64 0, .string sc, .slice ea l.length ec, .string ⟨#[]⟩, .slice none 0 0, .int .i64 0, .int .i64 0, .int .i64 0], CellsAt.row Hg6.out, by kernel_rfl, by kernel_rfl, ?_⟩) | ((with_reducible refine wpList_store_row_lit 119 (.tmp 2) (.tmp 66) ?_); refine ⟨w.heap.size, rfl, _, _, Hga6.out, [.int .i64 1, .int .i64 (te - 1), .string s, .int .i64 0, .int .i64 0, .string ⟨#[]⟩, .int .i64 0, .string ⟨#[]⟩, .slice none 0 0, .string ⟨#[]⟩, .int .i64 0, .string sc, .slice ea l.length ec, .string ⟨#[]⟩, .slice none 0 0, .int .i64 0, .int .i64 0, .int .i64 0], rfl, rfl, by kernel_rfl, rfl, ?_⟩; intro w7 hg7 hm7; have Hg7 := Lib.hid hg7; have Hm7 := Lib.hid hm7; clear hg7 hm7) | fail)
    have hm67 := Hm7.out
    have hr7 := (Hr.out.new Hm56.out (B := w.heap.size) hrl hG (fun b hb => by omega)).new hm67 (B := w.heap.size) hrl hG (fun b hb => by omega)
    have hm07 := (Hm05.out.upon Hm56.out (fun b hb => .inr (by omega))).upon hm67 (fun b hb => .inr (by omega))
    refine bodyPost_ret (v := .tuple #[.agg ([.int .i64 1, .int .i64 (te - 1), .string s, .int .i64 0, .int .i64 0, .string ⟨#[]⟩, .int .i64 0, .string ⟨#[]⟩, .slice none 0 0, .string ⟨#[]⟩, .int .i64 0, .string sc, .slice ea l.length ec, .string ⟨#[]⟩, .slice none 0 0, .int .i64 0, .int .i64 0, .int .i64 0] : List Value).toArray, .bool B]) ?_ rfl (.inr ⟨{ PO.mk0 1 (te - 1) with who := s, esc := sc, es := l }, B, _, ⟨none, 0, ea, ec, none, 0⟩, ?_, rfl, ?_, hr7, hm07⟩)
    · have hl := run_loadVar_cells (P := Tryz.prog) 119 w.heap.size 0 [.int .i64 1, .int .i64 (te - 1), .string s, .int .i64 0, .int .i64 0, .string ⟨#[]⟩, .int .i64 0, .string ⟨#[]⟩, .slice none 0 0, .string ⟨#[]⟩, .int .i64 0, .string sc, .slice ea l.length ec, .string ⟨#[]⟩, .slice none 0 0, .int .i64 0, .int .i64 0, .int .i64 0] (CellsAt.row Hg7.out) (by kernel_rfl) (by kernel_rfl)
      simp [results, Tryz.results73, Result.andThen, asAddr, hl]
    · simp [readO, H1.out, H2.out, H3.out, H4.out, PO.mk0, hB]
    · exact ⟨OwnSl.nil _ _ _, (Hown.out.mod Hm56.out (fun b hb (e : b = w2.heap.size) => by have := Hfr.out b hb; omega)).mod hm67 (fun b hb (e : b = w.heap.size) => by have := Hfr.out b hb; omega), OwnSl.nil _ _ _, fun b hb => (no_block _ _ b hb).elim, fun b hb => by have := Hfr.out b hb; omega, fun b hb => (no_block _ _ b hb).elim⟩
  by_cases hk0 : k = 0
  · subst hk0
    have hb3 := take_rule w3 r G t2 Hr3.out Hs3.out
    have c0 : w3.cell? ⟨w2.heap.size, 0, none⟩ = some (.int .i64 0) := cell_of Hgw3.out rfl
    have c1 : w3.cell? ⟨w2.heap.size, 1, none⟩ = some (.int .i64 (te - 1)) := cell_of Hgw3.out rfl
    have Hb3 := Lib.hid hb3
    clear hb3
    go_wp2_with (first | ((with_reducible refine wpList_store_lit 119 (.tmp 4) (.tmp 12) ?_); refine ⟨rfl, [.int .i64 0, .int .i64 (te - 1), .string ⟨#[]⟩, .int .i64 0, .int .i64 0, .string ⟨#[]⟩, .int .i64 0, .string ⟨#[]⟩, .slice none 0 0, .string ⟨#[]⟩, .int .i64 0, .string ⟨#[]⟩, .slice none 0 0, .string ⟨#[]⟩, .slice none 0 0, .int .i64 0, .int .i64 0, .int .i64 0], rfl, rfl, by kernel_rfl, rfl, ?_⟩; rw [Hw3.out]) | fail)
    clear c0 c1
    refine Hb3.out.mono ?_
    rintro e w4 (⟨g3, rfl, hm⟩ | ⟨p, t3, a, c, g3, rfl, hown, hfr, hr, hm⟩)
    · exact ⟨rfl, .inl ⟨by simp [readO, H1.out, H2.out, g3], rfl, Hm03.out.trans hm (fun _ _ h => h)⟩⟩
    have hm04 := Hm03.out.trans hm (fun _ _ h => h)
    have hl4 : w2.heap.size < w4.heap.size := Nat.lt_of_lt_of_le (Array.getElem?_eq_some_iff.1 Hgw3.out).1 hm.size
    have hg4 := hm.heap Hgw3.out (fun e : w2.heap.size = r => by omega)
    have hga4 := hm.heap Hga3.out (fun e : w.heap.size = r => by omega)
    have H3 := Lib.hid g3
    have hfr : ∀ b, (Value.slice a p.cs.length c).ownBlock = some b → w2.heap.size < b := fun b hb => Nat.lt_of_lt_of_le (Array.getElem?_eq_some_iff.1 Hgw3.out).1 (hfr b hb)
    have Hown := Lib.hid hown
    have Hfr := Lib.hid hfr
    have Hg4 := Lib.hid hg4
    have Hga4 := Lib.hid hga4
    have Hm04 := Lib.hid hm04
    have Hr := Lib.hid hr
    clear hown hfr hg4 hga4 hm04 hr g3 hm Hb3 Hgw3 Hga3 Hm03 Hr3 Hw3
    cases B
    · go_wp2_with (first | ((with_reducible refine wpList_store_part_lit 117 (.tmp 26) (.tmp 24) ?_); refine ⟨w2.heap.size, 3, rfl, _, _, Hg4.out, (p.lies a c).cells, rfl, Nat.le_of_ble_eq_true rfl, by kernel_rfl, rfl, ?_⟩; intro w6 he6 hmu; have hg6 : w6.heap[w2.heap.size]? = some (.cells ([.int .i64 0, .int .i64 (te - 1), .string ⟨#[]⟩, .int .i64 p.kind, .int .i64 p.tenant, .string p.who, .int .i64 p.broker, .string p.sc, .slice a p.cs.length c, .string p.name, .int .i64 p.at_, .string ⟨#[]⟩, .slice none 0 0, .string ⟨#[]⟩, .slice none 0 0, .int .i64 0, .int .i64 0, .int .i64 0] : List Value).toArray 119 (0, 0)) := he6 ▸ setRow_heap w4 w2.heap.size _ _ _ _ Hg4.out; have hm56 : Mod (fun k => k = w2.heap.size) w4 w6 := hmu; have hga6 := hm56.heap Hga4.out (fun e : w.heap.size = w2.heap.size => by omega); have Hg6 := Lib.hid hg6; have Hm56 := Lib.hid hm56; have Hga6 := Lib.hid hga6; clear he6 hmu hg6 hm56 hga6) | ((with_reducible refine wpList_load_lit 119 (.tmp 4) ?_); refine ⟨w2.heap.size, 0, rfl, [.int .i64 0, .int .i64 (te - 1), .string ⟨#[]⟩, .int .i64 p.kind, .int .i64 p.tenant, .string p.who, .int .i64 p.broker, .string p.sc, .slice a p.cs.length c, .string p.name, .int .i64 p.at_, .string ⟨#[]⟩, .slice none 0 0, .string ⟨#[]⟩, .slice none 0 0, .int .i64 0, .int .i64 0, .int .i64 0], CellsAt.row Hg6.out, by kernel_rfl, by kernel_rfl, ?_⟩) | ((with_reducible refine wpList_store_row_lit 119 (.tmp 2) (.tmp 66) ?_); refine ⟨w.heap.size, rfl, _, _, Hga6.out, [.int .i64 0, .int .i64 (te - 1), .string ⟨#[]⟩, .int .i64 p.kind, .int .i64 p.tenant, .string p.who, .int .i64 p.broker, .string p.sc, .slice a p.cs.length c, .string p.name, .int .i64 p.at_, .string ⟨#[]⟩, .slice none 0 0, .string ⟨#[]⟩, .slice none 0 0, .int .i64 0, .int .i64 0, .int .i64 0], rfl, rfl, by kernel_rfl, rfl, ?_⟩; intro w7 hg7 hm7; have Hg7 := Lib.hid hg7; have Hm7 := Lib.hid hm7; clear hg7 hm7) | fail)
      have hm67 := Hm7.out
      have hr7 := (Hr.out.new Hm56.out (B := w.heap.size) hrl hG (fun b hb => by omega)).new hm67 (B := w.heap.size) hrl hG (fun b hb => by omega)
      have hm07 := (Hm04.out.upon Hm56.out (fun b hb => .inr (by omega))).upon hm67 (fun b hb => .inr (by omega))
      refine bodyPost_ret (v := .tuple #[.agg ([.int .i64 0, .int .i64 (te - 1), .string ⟨#[]⟩, .int .i64 p.kind, .int .i64 p.tenant, .string p.who, .int .i64 p.broker, .string p.sc, .slice a p.cs.length c, .string p.name, .int .i64 p.at_, .string ⟨#[]⟩, .slice none 0 0, .string ⟨#[]⟩, .slice none 0 0, .int .i64 0, .int .i64 0, .int .i64 0] : List Value).toArray, .bool false]) ?_ rfl (.inr ⟨{ PO.mk0 0 (te - 1) with r := p }, false, _, ⟨a, c, none, 0, none, 0⟩, ?_, rfl, ?_, hr7, hm07⟩)
      · have hl := run_loadVar_cells (P := Tryz.prog) 119 w.heap.size 0 [.int .i64 0, .int .i64 (te - 1), .string ⟨#[]⟩, .int .i64 p.kind, .int .i64 p.tenant, .string p.who, .int .i64 p.broker, .string p.sc, .slice a p.cs.length c, .string p.name, .int .i64 p.at_, .string ⟨#[]⟩, .slice none 0 0, .string ⟨#[]⟩, .slice none 0 0, .int .i64 0, .int .i64 0, .int .i64 0] (CellsAt.row Hg7.out) (by kernel_rfl) (by kernel_rfl)
        simp [results, Tryz.results73, Result.andThen, asAddr, hl]
      · simp [readO, H1.out, H2.out, H3.out, PO.mk0, hB]
      · exact ⟨(Hown.out.mod Hm56.out (fun b hb (e : b = w2.heap.size) => by have := Hfr.out b hb; omega)).mod hm67 (fun b hb (e : b = w.heap.size) => by have := Hfr.out b hb; omega), OwnSl.nil _ _ _, OwnSl.nil _ _ _, fun b hb => by have := Hfr.out b hb; omega, fun b hb => (no_block _ _ b hb).elim, fun b hb => (no_block _ _ b hb).elim⟩
    · go_wp2_with (first | ((with_reducible refine wpList_store_part_lit 117 (.tmp 26) (.tmp 24) ?_); refine ⟨w2.heap.size, 3, rfl, _, _, Hg4.out, (p.lies a c).cells, rfl, Nat.le_of_ble_eq_true rfl, by kernel_rfl, rfl, ?_⟩; intro w6 he6 hmu; have hg6 : w6.heap[w2.heap.size]? = some (.cells ([.int .i64 0, .int .i64 (te - 1), .string ⟨#[]⟩, .int .i64 p.kind, .int .i64 p.tenant, .string p.who, .int .i64 p.broker, .string p.sc, .slice a p.cs.length c, .string p.name, .int .i64 p.at_, .string ⟨#[]⟩, .slice none 0 0, .string ⟨#[]⟩, .slice none 0 0, .int .i64 0, .int .i64 0, .int .i64 0] : List Value).toArray 119 (0, 0)) := he6 ▸ setRow_heap w4 w2.heap.size _ _ _ _ Hg4.out; have hm56 : Mod (fun k => k = w2.heap.size) w4 w6 := hmu; have hga6 := hm56.heap Hga4.out (fun e : w.heap.size = w2.heap.size => by omega); have Hg6 := Lib.hid hg6; have Hm56 := Lib.hid hm56; have Hga6 := Lib.hid hga6; clear he6 hmu hg6 hm56 hga6) | ((with_reducible refine wpList_load_lit 119 (.tmp 4) ?_); refine ⟨w2.heap.size, 0, rfl, [.int .i64 0, .int .i64 (te - 1), .string ⟨#[]⟩, .int .i64 p.kind, .int .i64 p.tenant, .string p.who, .int .i64 p.broker, .string p.sc, .slice a p.cs.length c, .string p.name, .int .i64 p.at_, .string ⟨#[]⟩, .slice none 0 0, .string ⟨#[]⟩, .slice none 0 0, .int .i64 0, .int .i64 0, .int .i64 0], CellsAt.row Hg6.out, by kernel_rfl, by kernel_rfl, ?_⟩) | ((with_reducible refine wpList_store_row_lit 119 (.tmp 2) (.tmp 66) ?_); refine ⟨w.heap.size, rfl, _, _, Hga6.out, [.int .i64 0, .int .i64 (te - 1), .string ⟨#[]⟩, .int .i64 p.kind, .int .i64 p.tenant, .string p.who, .int .i64 p.broker, .string p.sc, .slice a p.cs.length c, .string p.name, .int .i64 p.at_, .string ⟨#[]⟩, .slice none 0 0, .string ⟨#[]⟩, .slice none 0 0, .int .i64 0, .int .i64 0, .int .i64 0], rfl, rfl, by kernel_rfl, rfl, ?_⟩; intro w7 hg7 hm7; have Hg7 := Lib.hid hg7; have Hm7 := Lib.hid hm7; clear hg7 hm7) | fail)
      have hm67 := Hm7.out
      have hr7 := (Hr.out.new Hm56.out (B := w.heap.size) hrl hG (fun b hb => by omega)).new hm67 (B := w.heap.size) hrl hG (fun b hb => by omega)
      have hm07 := (Hm04.out.upon Hm56.out (fun b hb => .inr (by omega))).upon hm67 (fun b hb => .inr (by omega))
      refine bodyPost_ret (v := .tuple #[.agg ([.int .i64 0, .int .i64 (te - 1), .string ⟨#[]⟩, .int .i64 p.kind, .int .i64 p.tenant, .string p.who, .int .i64 p.broker, .string p.sc, .slice a p.cs.length c, .string p.name, .int .i64 p.at_, .string ⟨#[]⟩, .slice none 0 0, .string ⟨#[]⟩, .slice none 0 0, .int .i64 0, .int .i64 0, .int .i64 0] : List Value).toArray, .bool p.rightB]) ?_ rfl (.inr ⟨{ PO.mk0 0 (te - 1) with r := p }, p.rightB, _, ⟨a, c, none, 0, none, 0⟩, ?_, rfl, ?_, hr7, hm07⟩)
      · have hl := run_loadVar_cells (P := Tryz.prog) 119 w.heap.size 0 [.int .i64 0, .int .i64 (te - 1), .string ⟨#[]⟩, .int .i64 p.kind, .int .i64 p.tenant, .string p.who, .int .i64 p.broker, .string p.sc, .slice a p.cs.length c, .string p.name, .int .i64 p.at_, .string ⟨#[]⟩, .slice none 0 0, .string ⟨#[]⟩, .slice none 0 0, .int .i64 0, .int .i64 0, .int .i64 0] (CellsAt.row Hg7.out) (by kernel_rfl) (by kernel_rfl)
        simp [results, Tryz.results73, Result.andThen, asAddr, hl]
      · simp [readO, H1.out, H2.out, H3.out, PO.mk0, hB]
      · exact ⟨(Hown.out.mod Hm56.out (fun b hb (e : b = w2.heap.size) => by have := Hfr.out b hb; omega)).mod hm67 (fun b hb (e : b = w.heap.size) => by have := Hfr.out b hb; omega), OwnSl.nil _ _ _, OwnSl.nil _ _ _, fun b hb => by have := Hfr.out b hb; omega, fun b hb => (no_block _ _ b hb).elim, fun b hb => (no_block _ _ b hb).elim⟩
  exact absurd hKk (by omega)
end Go.Proofs.YtloplmaekonenaaGreatDoor
namespace Go.Proofs.YtloplmaekonenaaGreatDoor
set_option maxRecDepth 20000
open Go.RowKit
set_option maxRecDepth 20000 in
set_option maxHeartbeats 8000000 in
theorem next_D (w : World) (r G : Nat) (bs : List UInt8) (h : Rdr w r G bs) (hG : G < w.heap.size)
    (hK : ∀ k t, readB bs = some (k, t) → k ≠ 0 ∧ k ≠ 1 ∧ k ≠ 2 ∧ k ≠ 3 ∧ k ≠ 4 ∧ k ≠ 5 ∧ k ≠ 6 ∧ k ≠ 7) :
    Calls Tryz.prog 73 #[.pointer (some ⟨r, 0, none⟩)] w (NextPost w r G bs) := by
  have hrl := h.lt
  obtain ⟨wa, hwa⟩ : ∃ wa : World, w.alloc (.cells #[.int .i64 0, .int .i64 0, .string ⟨#[]⟩, .int .i64 0, .int .i64 0, .string ⟨#[]⟩, .int .i64 0, .string ⟨#[]⟩, .slice none 0 0, .string ⟨#[]⟩, .int .i64 0, .string ⟨#[]⟩, .slice none 0 0, .string ⟨#[]⟩, .slice none 0 0, .int .i64 0, .int .i64 0, .int .i64 0] 119) = wa := ⟨_, rfl⟩
  have hmwa : Mod (fun _ => False) w wa := hwa ▸ (Mod.refl (fun _ => False) w).alloc _
  have hgwa := heap_alloc_new w (.cells #[.int .i64 0, .int .i64 0, .string ⟨#[]⟩, .int .i64 0, .int .i64 0, .string ⟨#[]⟩, .int .i64 0, .string ⟨#[]⟩, .slice none 0 0, .string ⟨#[]⟩, .int .i64 0, .string ⟨#[]⟩, .slice none 0 0, .string ⟨#[]⟩, .slice none 0 0, .int .i64 0, .int .i64 0, .int .i64 0] 119)
  rw [hwa] at hgwa
  have hzwa : wa.heap.size = w.heap.size + 1 := by rw [← hwa]; simp
  have hra := h.new hmwa hrl hG (by simp)
  have hma : Mod (fun k => k = r) w wa := hmwa.mono (by simp)
  have hb1 := rd_byte2 wa r G bs hra
  have Hb1 := Lib.hid hb1
  have Hma := Lib.hid hma
  have Hgwa := Lib.hid hgwa
  have Hwa := Lib.hid hwa
  clear hb1 hma hgwa hwa h hra hmwa
  go_enter Tryz.func73, Tryz.ntmps73
  go_wp2_with fail
  rw [show w.alloc _ = wa from Hwa.out]
  refine Hb1.out.mono ?_
  rintro e w1 (⟨g1, rfl, hm⟩ | ⟨k, t1, g1, rfl, hr, hm⟩)
  · exact ⟨rfl, .inl ⟨by simp only [readO, g1, Option.bind_none], rfl, Hma.out.trans hm (fun _ _ h => h)⟩⟩
  have hm01 := Hma.out.trans hm (fun _ _ h => h)
  have hga1 := hm.heap Hgwa.out (fun e : w.heap.size = r => by omega)
  have hb := rd_byte2 w1 r G t1 hr
  have hk := (readB_back g1).2
  have H1 := Lib.hid g1
  have Hb2 := Lib.hid hb
  have Hm01 := Lib.hid hm01
  have Hga1 := Lib.hid hga1
  clear hb hm01 hr hm Hb1 g1 hga1 Hgwa Hwa Hma
  go_wp2_with fail
  refine Hb2.out.mono ?_
  rintro e w2 (⟨g2, rfl, hm⟩ | ⟨te, t2, g2, rfl, hr, hm⟩)
  · exact ⟨rfl, .inl ⟨by simp only [readO, H1.out, g2, Option.bind_some, Option.bind_none], rfl, Hm01.out.trans hm (fun _ _ h => h)⟩⟩
  have hm02 := Hm01.out.trans hm (fun _ _ h => h)
  have hga2 := hm.heap Hga1.out (fun e : w.heap.size = r => by omega)
  have hl2 : w.heap.size < w2.heap.size := (Array.getElem?_eq_some_iff.1 hga2).1
  have ht := (readB_back g2).2
  have H2 := Lib.hid g2
  clear hm Hm01 Hga1 Hb2 g2
  obtain ⟨B, hB⟩ : ∃ B, decide (te - 1 < 4) = B := ⟨_, rfl⟩
  obtain ⟨w3, hw3⟩ : ∃ w3 : World, w2.alloc (.cells #[.int .i64 k, .int .i64 (te - 1), .string ⟨#[]⟩, .int .i64 0, .int .i64 0, .string ⟨#[]⟩, .int .i64 0, .string ⟨#[]⟩, .slice none 0 0, .string ⟨#[]⟩, .int .i64 0, .string ⟨#[]⟩, .slice none 0 0, .string ⟨#[]⟩, .slice none 0 0, .int .i64 0, .int .i64 0, .int .i64 0] 119) = w3 := ⟨_, rfl⟩
  have hmw3 : Mod (fun _ => False) w2 w3 := hw3 ▸ (Mod.refl (fun _ => False) w2).alloc _
  have hgw3 := heap_alloc_new w2 (.cells #[.int .i64 k, .int .i64 (te - 1), .string ⟨#[]⟩, .int .i64 0, .int .i64 0, .string ⟨#[]⟩, .int .i64 0, .string ⟨#[]⟩, .slice none 0 0, .string ⟨#[]⟩, .int .i64 0, .string ⟨#[]⟩, .slice none 0 0, .string ⟨#[]⟩, .slice none 0 0, .int .i64 0, .int .i64 0, .int .i64 0] 119)
  rw [hw3] at hgw3
  have hzw3 : w3.heap.size = w2.heap.size + 1 := by rw [← hw3]; simp
  have hr3 := hr.new hmw3 (B := w.heap.size) hrl hG (by simp)
  have hm03 := hm02.trans (hmw3.mono (by simp)) (fun _ _ h => h)
  have hga3 := hmw3.heap hga2 (fun h => h)
  have hs3 : G < w3.heap.size := by omega
  have Hr3 := Lib.hid hr3
  have Hm03 := Lib.hid hm03
  have Hga3 := Lib.hid hga3
  have Hgw3 := Lib.hid hgw3
  have Hw3 := Lib.hid hw3
  have Hs3 := Lib.hid hs3
  clear hr3 hm03 hga3 hgw3 hw3 hs3 hga2 hm02 hr hmw3 hzw3
  obtain ⟨hk0, hk1, hk2, hk3, hk4, hk5, hk6, hk7⟩ := hK _ _ H1.out
  · have hk8 : ¬ k ≤ 7 := by omega
    have c0 : w3.cell? ⟨w2.heap.size, 0, none⟩ = some (.int .i64 k) := cell_of Hgw3.out rfl
    have c1 : w3.cell? ⟨w2.heap.size, 1, none⟩ = some (.int .i64 (te - 1)) := cell_of Hgw3.out rfl
    have q0 : (k == 0) = false := by rw [beq_eq_false_iff_ne]; exact hk0
    have q1 : (k == 1) = false := by rw [beq_eq_false_iff_ne]; exact hk1
    have q2 : (k == 2) = false := by rw [beq_eq_false_iff_ne]; exact hk2
    have q3 : (k == 3) = false := by rw [beq_eq_false_iff_ne]; exact hk3
    have q4 : (k == 4) = false := by rw [beq_eq_false_iff_ne]; exact hk4
    have q5 : (k == 5) = false := by rw [beq_eq_false_iff_ne]; exact hk5
    have q6 : (k == 6) = false := by rw [beq_eq_false_iff_ne]; exact hk6
    have q7 : (k == 7) = false := by rw [beq_eq_false_iff_ne]; exact hk7
    go_wp2_with (first | ((with_reducible refine wpList_store_lit 119 (.tmp 4) (.tmp 12) ?_); refine ⟨rfl, [.int .i64 k, .int .i64 (te - 1), .string ⟨#[]⟩, .int .i64 0, .int .i64 0, .string ⟨#[]⟩, .int .i64 0, .string ⟨#[]⟩, .slice none 0 0, .string ⟨#[]⟩, .int .i64 0, .string ⟨#[]⟩, .slice none 0 0, .string ⟨#[]⟩, .slice none 0 0, .int .i64 0, .int .i64 0, .int .i64 0], rfl, rfl, by kernel_rfl, rfl, ?_⟩; rw [Hw3.out]) | ((with_reducible refine wpList_load_lit 119 (.tmp 4) ?_); refine ⟨w2.heap.size, 0, rfl, [.int .i64 k, .int .i64 (te - 1), .string ⟨#[]⟩, .int .i64 0, .int .i64 0, .string ⟨#[]⟩, .int .i64 0, .string ⟨#[]⟩, .slice none 0 0, .string ⟨#[]⟩, .int .i64 0, .string ⟨#[]⟩, .slice none 0 0, .string ⟨#[]⟩, .slice none 0 0, .int .i64 0, .int .i64 0, .int .i64 0], CellsAt.row Hgw3.out, by kernel_rfl, by kernel_rfl, ?_⟩) | ((with_reducible refine wpList_store_row_lit 119 (.tmp 2) (.tmp 18) ?_); refine ⟨w.heap.size, rfl, _, _, Hga3.out, [.int .i64 k, .int .i64 (te - 1), .string ⟨#[]⟩, .int .i64 0, .int .i64 0, .string ⟨#[]⟩, .int .i64 0, .string ⟨#[]⟩, .slice none 0 0, .string ⟨#[]⟩, .int .i64 0, .string ⟨#[]⟩, .slice none 0 0, .string ⟨#[]⟩, .slice none 0 0, .int .i64 0, .int .i64 0, .int .i64 0], rfl, rfl, by kernel_rfl, rfl, ?_⟩; intro w7 hg7 hm7; have Hg7 := Lib.hid hg7; have Hm7 := Lib.hid hm7; clear hg7 hm7) | fail)
    have hm67 := Hm7.out
    have hr7 := Hr3.out.new hm67 (B := w.heap.size) hrl hG (fun b hb => by omega)
    have hm07 := Hm03.out.upon hm67 (fun b hb => .inr (by omega))
    refine bodyPost_ret (v := .tuple #[.agg ([.int .i64 k, .int .i64 (te - 1), .string ⟨#[]⟩, .int .i64 0, .int .i64 0, .string ⟨#[]⟩, .int .i64 0, .string ⟨#[]⟩, .slice none 0 0, .string ⟨#[]⟩, .int .i64 0, .string ⟨#[]⟩, .slice none 0 0, .string ⟨#[]⟩, .slice none 0 0, .int .i64 0, .int .i64 0, .int .i64 0] : List Value).toArray, .bool false]) ?_ rfl (.inr ⟨PO.mk0 k (te - 1), false, _, ⟨none, 0, none, 0, none, 0⟩, ?_, rfl, ?_, hr7, hm07⟩)
    · have hl := run_loadVar_cells (P := Tryz.prog) 119 w.heap.size 0 [.int .i64 k, .int .i64 (te - 1), .string ⟨#[]⟩, .int .i64 0, .int .i64 0, .string ⟨#[]⟩, .int .i64 0, .string ⟨#[]⟩, .slice none 0 0, .string ⟨#[]⟩, .int .i64 0, .string ⟨#[]⟩, .slice none 0 0, .string ⟨#[]⟩, .slice none 0 0, .int .i64 0, .int .i64 0, .int .i64 0] (CellsAt.row Hg7.out) (by kernel_rfl) (by kernel_rfl)
      simp [results, Tryz.results73, Result.andThen, asAddr, hl]
    · simp [readO, H1.out, H2.out, hk0, hk1, hk2, hk3, PO.mk0, hB]
      exact fun h => absurd h (by omega)
    · exact ⟨OwnSl.nil _ _ _, OwnSl.nil _ _ _, OwnSl.nil _ _ _, fun b hb => (no_block _ _ b hb).elim, fun b hb => (no_block _ _ b hb).elim, fun b hb => (no_block _ _ b hb).elim⟩
end Go.Proofs.YtloplmaekonenaaGreatDoor
namespace Go.Proofs.YtloplmaekonenaaGreatDoor
set_option maxRecDepth 20000
open Go.RowKit
theorem next_at (w : World) (r G : Nat) (bs : List UInt8) (h : Rdr w r G bs) (hG : G < w.heap.size) :
    Calls Tryz.prog 73 #[.pointer (some ⟨r, 0, none⟩)] w (NextPost w r G bs) := by
  cases hb : readB bs with
  | none => exact next_D w r G bs h hG (fun k t e => by rw [hb] at e; cases e)
  | some p =>
    obtain ⟨k, t⟩ := p
    have hk : ∀ k' t', readB bs = some (k', t') → k' = k := fun k' t' e => by rw [hb] at e; cases e; rfl
    by_cases hA : k = 4 ∨ k = 5
    · exact next_A w r G bs h hG (fun k' t' e => by rw [hk k' t' e]; exact hA)
    by_cases hB : k = 6 ∨ k = 7
    · exact next_B w r G bs h hG (fun k' t' e => by rw [hk k' t' e]; exact hB)
    by_cases hC : k = 3 ∨ k = 2
    · exact next_C w r G bs h hG (fun k' t' e => by rw [hk k' t' e]; exact hC)
    by_cases hE : k = 1 ∨ k = 0
    · exact next_E w r G bs h hG (fun k' t' e => by rw [hk k' t' e]; exact hE)
    exact next_D w r G bs h hG (fun k' t' e => by rw [hk k' t' e]; omega)
end Go.Proofs.YtloplmaekonenaaGreatDoor
namespace Go.Proofs.YtloplmaekonenaaGreatDoor
set_option maxRecDepth 20000
open Go.RowKit
theorem ops_T : SliceT Tryz.prog 66 119 18 240 := sliceT (by kernel_rfl) (by kernel_rfl)
def opsCells (l : List (PO × Lie)) : List Value := l.flatMap fun p => opCells p.1 p.2
theorem opsCells_snoc (l : List (PO × Lie)) (p : PO × Lie) : opsCells (l ++ [p]) = opsCells l ++ opCells p.1 p.2 := by unfold opsCells; simp
theorem opsCells_at (l : List (PO × Lie)) {k j : Nat} {p : PO × Lie} {u : Value} (h : l[k]? = some p) (hj : (opCells p.1 p.2)[j]? = some u) : (opsCells l)[18 * k + j]? = some u := by
  induction l generalizing k with
  | nil => simp at h
  | cons b l ih =>
    unfold opsCells at ih ⊢
    rw [List.flatMap_cons]
    cases k with
    | zero =>
      simp only [List.getElem?_cons_zero, Option.some.injEq] at h
      subst h
      have := (List.getElem?_eq_some_iff.1 hj).1
      rw [List.getElem?_append_left (by omega), Nat.mul_zero, Nat.zero_add, hj]
    | succ k =>
      rw [List.getElem?_cons_succ] at h
      rw [List.getElem?_append_right (by rw [opCells_length]; omega), opCells_length, show 18 * (k + 1) + j - 18 = 18 * k + j by omega]
      exact ih h
def OpBlk (p : PO × Lie) (b : Nat) : Prop := (Value.slice p.2.ra p.1.r.cs.length p.2.rc).ownBlock = some b ∨ (Value.slice p.2.ea p.1.es.length p.2.ec).ownBlock = some b ∨ (Value.slice p.2.fa p.1.fs.length p.2.fc).ownBlock = some b
theorem OpOwn.keep {w w' : World} {B : Nat} {F : Nat → Prop} {p : PO × Lie} (h : OpOwn w B p.1 p.2) (hm : Mod F w w') (hF : ∀ b, OpBlk p b → ¬ F b) : OpOwn w' B p.1 p.2 :=
  ⟨h.r.mod hm (fun b hb => hF b (.inl hb)), h.e.mod hm (fun b hb => hF b (.inr (.inl hb))), h.f.mod hm (fun b hb => hF b (.inr (.inr hb))), h.rb, h.eb, h.fb⟩
theorem OpOwn.lt {w : World} {B : Nat} {p : PO × Lie} (h : OpOwn w B p.1 p.2) {b : Nat} (hb : OpBlk p b) : B ≤ b ∧ b < w.heap.size := by
  rcases hb with hb | hb | hb
  · exact ⟨h.rb b hb, h.r.lt b hb⟩
  · exact ⟨h.eb b hb, h.e.lt b hb⟩
  · exact ⟨h.fb b hb, h.f.lt b hb⟩
theorem OpOwn.low {w : World} {B C : Nat} {o : PO} {y : Lie} (h : OpOwn w B o y) (hC : C ≤ B) : OpOwn w C o y :=
  ⟨h.r, h.e, h.f, fun b hb => Nat.le_trans hC (h.rb b hb), fun b hb => Nat.le_trans hC (h.eb b hb), fun b hb => Nat.le_trans hC (h.fb b hb)⟩
structure OpsAt (w : World) (B : Nat) (v : Value) (l : List (PO × Lie)) : Prop where
  own : OwnSl w 119 18 v l.length (opsCells l)
  vb : ∀ b, v.ownBlock = some b → B ≤ b
  ops : ∀ p ∈ l, OpOwn w B p.1 p.2
  apart : ∀ p ∈ l, ∀ b, v.ownBlock = some b → ¬ OpBlk p b
theorem OpsAt.nil (w : World) (B : Nat) : OpsAt w B (.slice none 0 0) [] := ⟨OwnSl.nil _ _ _, fun b hb => (by cases hb), fun p hp => (by cases hp), fun p hp => (by cases hp)⟩
theorem OpsAt.mod {w w' : World} {B : Nat} {F : Nat → Prop} {v : Value} {l : List (PO × Lie)} (h : OpsAt w B v l) (hm : Mod F w w') (hF : ∀ b, F b → b < B) : OpsAt w' B v l :=
  ⟨h.own.mod hm (fun b hb hf => by have := h.vb b hb; have := hF b hf; omega), h.vb, fun p hp => (h.ops p hp).keep hm (fun b hb hf => by have := ((h.ops p hp).lt hb).1; have := hF b hf; omega), h.apart⟩
theorem OpsAt.app {w w' : World} {B : Nat} {v v' : Value} {l : List (PO × Lie)} {p : PO × Lie} (h : OpsAt w B v l) (hp : OpOwn w B p.1 p.2) (hv : ∀ b, v.ownBlock = some b → ¬ OpBlk p b) (hB : B ≤ w.heap.size)
    (hA : Appended w 119 18 v (l.length + 1) (opsCells l ++ opCells p.1 p.2) v' w') : OpsAt w' B v' (l ++ [p]) := by
  obtain ⟨h1, h2, h3⟩ := hA
  have hall : ∀ q ∈ l ++ [p], OpOwn w B q.1 q.2 ∧ ∀ b, v.ownBlock = some b → ¬ OpBlk q b := fun q hq => by
    rcases List.mem_append.1 hq with hq | hq
    · exact ⟨h.ops q hq, h.apart q hq⟩
    · rw [List.mem_singleton.1 hq]; exact ⟨hp, hv⟩
  refine ⟨by rw [List.length_append, opsCells_snoc]; exact h1, fun b hb => ?_, fun q hq => (hall q hq).1.keep h2 (fun b hb hin => (hall q hq).2 b hin hb), fun q hq b hb hq2 => ?_⟩
  · rcases h3 with e | ⟨k, e, hk⟩
    · exact h.vb b (by rw [← e]; exact hb)
    · rw [e] at hb; cases hb; omega
  · rcases h3 with e | ⟨k, e, hk⟩
    · exact (hall q hq).2 b (by rw [← e]; exact hb) hq2
    · rw [e] at hb; cases hb
      have := ((hall q hq).1.lt hq2).2
      omega
end Go.Proofs.YtloplmaekonenaaGreatDoor
