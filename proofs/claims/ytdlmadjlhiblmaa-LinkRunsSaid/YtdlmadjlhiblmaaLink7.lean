/-
  The contract of link's Step: a packet comes that has been taken before.
-/
import Derived.Test.YtdlmadjlhiblmaaLink5
namespace Go.Proofs.Ytdlmadjlhiblmaa
open Go.RowKit

set_option maxRecDepth 100000 in
set_option maxHeartbeats 1000000 in
/-- A packet comes that isn't the next one: it is answered. -/
theorem step_dup (b : Nat) (F : Nat → Prop) (L : LinkS) (tk : Value) (w : World) (h : LinkAt w b F L) (ha : L.acks = []) (p : LPk) (hf : L.flight = [p]) (he : p.epoch = L.epoch) (hs : p.seq ≠ L.want) :
    Calls Try.prog 10 #[.pointer (some ⟨b, 0, none⟩), tk] w fun e w' => e = .returned (.bool true) ∧ LinkTo w w' b F { L with flight := [], acks := [⟨p.epoch, p.seq⟩] } := by
  have hL1 := h
  obtain ⟨vo, vf, va, hL⟩ := hL1
  have hpok : p.msg.ok := hL.ok.2 p (by rw [hf]; simp)
  have h1 := hL.acks; have h2 := hL.flight
  rw [ha] at h1; rw [hf] at h2
  obtain ⟨a1, p1, rfl⟩ := h1.none_of
  have hpl := LPk.len hpok
  have hml := hpok.len
  obtain ⟨g, off, cp, rfl, hc1, hcap, hcells, hgw, off', hoff, hown⟩ := h2.head hpl
  have HX := hcells.all hpl
  have HY := hcells.is hpl
  have c3 : w.cell? ⟨b, 3, none⟩ = some (.slice (some ⟨g, off, none⟩) 1 cp) := cell_of hL.row rfl
  have c4 : w.cell? ⟨b, 4, none⟩ = some (.slice a1 0 p1) := cell_of hL.row rfl
  have c0 : w.cell? ⟨b, 0, none⟩ = some (.int .i64 L.epoch) := cell_of hL.row rfl
  have c5 : w.cell? ⟨b, 5, none⟩ = some (.int .i64 L.want) := cell_of hL.row rfl
  have hbw : b < w.heap.size := (Array.getElem?_eq_some_iff.1 hL.row).1
  have q0 : p.cells[0]? = some (.int .i64 p.epoch) := rfl
  have q1 : p.cells[1]? = some (.int .i64 p.seq) := rfl
  obtain ⟨w1, hw1⟩ : ∃ w1 : World, w1 = w.alloc (.cells p.cells.toArray 55) := ⟨_, rfl⟩
  have hm1 : Mod (fun _ => False) w w1 := hw1 ▸ (Mod.refl (fun _ => False) w).alloc _
  have hbx : w1.heap[w.heap.size]? = some (.cells p.cells.toArray 55 (0, 0)) := hw1 ▸ heap_alloc_new w _
  have hbc : CellsAt w1 w.heap.size 0 p.cells := by simpa using CellsAt.row hbx
  have b0 : w1.cell? ⟨w.heap.size, 0, none⟩ = some (.int .i64 p.epoch) := hbc 0 _ rfl
  have b1 : w1.cell? ⟨w.heap.size, 1, none⟩ = some (.int .i64 p.seq) := hbc 1 _ rfl
  have hbm : CellsAt w1 w.heap.size 2 p.msg.cells := fun j u hu => by
    have := hbc (j + 2) u (by simpa [LPk.cells] using hu)
    rwa [show 0 + (j + 2) = 2 + j by omega] at this
  have HX2 := hbm.all hml
  have HY2 := hbm.is hml
  have hL1 := h.mod hm1 (by simp)
  have d3 : w1.cell? ⟨b, 3, none⟩ = some (.slice (some ⟨g, off, none⟩) 1 cp) := hm1.cell c3 (by simp)
  have d4 : w1.cell? ⟨b, 4, none⟩ = some (.slice a1 0 p1) := hm1.cell c4 (by simp)
  have fr : ∀ j, w1.frozen? ⟨b, j, none⟩ = false := fun j => fr_of (hm1.heap hL.row (by simp))
  have hbw1 : b < w1.heap.size := Nat.lt_of_lt_of_le hbw hm1.size
  have hsw1 : w.heap.size < w1.heap.size := (Array.getElem?_eq_some_iff.1 hbx).1
  have hbs : ¬ b = w.heap.size := by omega
  have hI1 := hL.mod hm1 (by simp)
  have d0 : w1.cell? ⟨b, 0, none⟩ = some (.int .i64 L.epoch) := hm1.cell c0 (by simp)
  have hne : ((p.seq : Int) == (L.want : Int)) = false := by simp; omega
  have d5 : w1.cell? ⟨b, 5, none⟩ = some (.int .i64 L.want) := hm1.cell c5 (by simp)
  have Hw1 := Lib.hid hw1
  have Hm1 := Lib.hid hm1
  have HI1 := Lib.hid hI1
  have Hna : Hid (¬ inBlock (.slice a1 0 p1) b) := Lib.hid fun hi => hL.acks.ne hL.row (by decide) b hi rfl
  have hk1 := hI1.acks
  rw [ha] at hk1
  have Hk := Lib.hid hk1
  have hown1 := hown.mod hm1 (by simp)
  have Hown1 := Lib.hid hown1
  have Hbc := Lib.hid hbc
  have Hbx := Lib.hid hbx
  have Hone := Lib.hid (LPk.one hpok)
  have HL := Lib.hid hL
  have H := Lib.hid h
  have Hown := Lib.hid hown
  have Hoff := Lib.hid hoff
  have Hh2 := Lib.hid h2
  have Hca := Lib.hid ha
  have Hcf := Lib.hid hf
  clear hL h1 h2 ha hf hcells hown hoff h hw1 hm1 hI1 hk1 hown1 hbc hbm hbx
  go_enter Try.func10, Try.ntmps10
  go_wp2_with ((refine wpList_store_new rfl 55 _ _ rfl rfl _ _ p.cells rfl (by rw [hpl]; rfl) (by rw [hpl]; exact pk_size) Hone.out ?_))
  rw [← Hw1.out]
  have hoff1 := Hoff.out
  go_quiet (fail)
  rcases hoff1 with ⟨rfl, -, rfl⟩ | ⟨hne1, rfl⟩
  · go_wp2_with fail
    refine wp_region_plan 10 11 (fun x => x.cell? ⟨b, 4, none⟩ = some (.slice a1 0 p1) ∧ x.cell? ⟨w.heap.size, 0, none⟩ = some (.int .i64 L.epoch) ∧ x.cell? ⟨w.heap.size, 1, none⟩ = some (.int .i64 p.seq))
      (by kernel_rfl) (by kernel_rfl) (fun _ _ d _ _ h => (by cases d <;> exact h)) (fun w x h => ⟨cell_new h.1 x, cell_new h.2.1 x, cell_new h.2.2 x⟩) (by refine ⟨?_, ?_, ?_⟩ <;> go_simp) ?_
    simp only [List.take_succ_cons, List.take_zero, List.drop_succ_cons, List.drop_zero]
    repeat
      refine stillS_cons (v := ?_) rfl (fun w0 h0 => ?_) ?_
      rotate_left
      first
        | (have h1 := h0 rfl; clear h0; obtain ⟨s4, s0, s1⟩ := h1; go_simp; with_reducible rfl)
        | (clear h0; go_simp; with_reducible rfl)
      simp only [Act.put, List.setIfInBounds_toArray, List.set_cons_zero, List.set_cons_succ]
    refine stillS_nil ?_
    have hro := heap_set (i := 3) (v := .slice (some ⟨g, off', none⟩) 0 0) (heap_drewN HI1.out.row nq)
    have hmo : Mod (fun k => k = b) w1 ((w1.drewN nq).setCell ⟨b, 3, none⟩ (.slice (some ⟨g, off', none⟩) 0 0)) := ((Mod.refl (fun k => k = b) w1).drewN nq).setCell (fun _ => rfl) _
    have hko := (Hk.out.drewN nq).setCell (a := ⟨b, 3, none⟩) Hna.out (.slice (some ⟨g, off', none⟩) 0 0)
    generalize hw3 : (w1.drewN nq).setCell ⟨b, 3, none⟩ (.slice (some ⟨g, off', none⟩) 0 0) = w3 at *
    have Hro := Lib.hid hro
    have Hmo := Lib.hid hmo
    have Hko := Lib.hid hko
    have Hw3 := Lib.hid hw3
    clear hro hmo hko hw3
    go_wp2_with ((refine wpList_append_sl rfl (.tmp 128) (.tmp 134) 25 rfl 53 2 16 acks_T (.slice a1 0 p1) 0 [] rfl ((Hko.out.alloc _).drew) _ 1 [.int .i64 L.epoch, .int .i64 p.seq] rfl (RdSl.oneD w3 [.int .i64 L.epoch, .int .i64 p.seq] 53 rfl) (by simp [Value.oneCell']) (by decide) (by decide) ?_; intro ad cq w4 hA; have hb4 := hA.2.1.heap (k := b) (heap_old (w := w3) Hro.out) Hna.out; have k4 : w4.cell? ⟨b, 4, none⟩ = some (.slice a1 0 p1) := cell_of hb4 rfl; have f4 : w4.frozen? ⟨b, 4, none⟩ = false := fr_of hb4; have HAp := Lib.hid hA; clear hA hb4))
    go_ret
    refine ⟨rfl, LinkTo.from ?_ Hm1.out⟩
    rw [he]
    exact HI1.out.acked (a := ⟨L.epoch, p.seq⟩) ((Hmo.out.alloc _).drew) (heap_old Hro.out) Hown1.out (fun _ h => h) HAp.out
  · go_wp2_with fail
    refine wp_region_plan 10 11 (fun x => x.cell? ⟨b, 4, none⟩ = some (.slice a1 0 p1) ∧ x.cell? ⟨w.heap.size, 0, none⟩ = some (.int .i64 L.epoch) ∧ x.cell? ⟨w.heap.size, 1, none⟩ = some (.int .i64 p.seq))
      (by kernel_rfl) (by kernel_rfl) (fun _ _ d _ _ h => (by cases d <;> exact h)) (fun w x h => ⟨cell_new h.1 x, cell_new h.2.1 x, cell_new h.2.2 x⟩) (by refine ⟨?_, ?_, ?_⟩ <;> go_simp) ?_
    simp only [List.take_succ_cons, List.take_zero, List.drop_succ_cons, List.drop_zero]
    repeat
      refine stillS_cons (v := ?_) rfl (fun w0 h0 => ?_) ?_
      rotate_left
      first
        | (have h1 := h0 rfl; clear h0; obtain ⟨s4, s0, s1⟩ := h1; go_simp; with_reducible rfl)
        | (clear h0; go_simp; with_reducible rfl)
      simp only [Act.put, List.setIfInBounds_toArray, List.set_cons_zero, List.set_cons_succ]
    refine stillS_nil ?_
    have hro := heap_set (i := 3) (v := .slice (some ⟨g, (off + 19), none⟩) 0 (cp - 1)) (heap_drewN HI1.out.row nq)
    have hmo : Mod (fun k => k = b) w1 ((w1.drewN nq).setCell ⟨b, 3, none⟩ (.slice (some ⟨g, (off + 19), none⟩) 0 (cp - 1))) := ((Mod.refl (fun k => k = b) w1).drewN nq).setCell (fun _ => rfl) _
    have hko := (Hk.out.drewN nq).setCell (a := ⟨b, 3, none⟩) Hna.out (.slice (some ⟨g, (off + 19), none⟩) 0 (cp - 1))
    generalize hw3 : (w1.drewN nq).setCell ⟨b, 3, none⟩ (.slice (some ⟨g, (off + 19), none⟩) 0 (cp - 1)) = w3 at *
    have Hro := Lib.hid hro
    have Hmo := Lib.hid hmo
    have Hko := Lib.hid hko
    have Hw3 := Lib.hid hw3
    clear hro hmo hko hw3
    go_wp2_with ((refine wpList_append_sl rfl (.tmp 128) (.tmp 134) 25 rfl 53 2 16 acks_T (.slice a1 0 p1) 0 [] rfl ((Hko.out.alloc _).drew) _ 1 [.int .i64 L.epoch, .int .i64 p.seq] rfl (RdSl.oneD w3 [.int .i64 L.epoch, .int .i64 p.seq] 53 rfl) (by simp [Value.oneCell']) (by decide) (by decide) ?_; intro ad cq w4 hA; have hb4 := hA.2.1.heap (k := b) (heap_old (w := w3) Hro.out) Hna.out; have k4 : w4.cell? ⟨b, 4, none⟩ = some (.slice a1 0 p1) := cell_of hb4 rfl; have f4 : w4.frozen? ⟨b, 4, none⟩ = false := fr_of hb4; have HAp := Lib.hid hA; clear hA hb4))
    go_ret
    refine ⟨rfl, LinkTo.from ?_ Hm1.out⟩
    rw [he]
    exact HI1.out.acked (a := ⟨L.epoch, p.seq⟩) ((Hmo.out.alloc _).drew) (heap_old Hro.out) Hown1.out (fun _ h => h) HAp.out


end Go.Proofs.Ytdlmadjlhiblmaa
