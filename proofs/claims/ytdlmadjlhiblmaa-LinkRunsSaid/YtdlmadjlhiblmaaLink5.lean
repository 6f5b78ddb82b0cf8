/-
  The contract of link's Step: a packet comes, and is taken, or isn't; and the small methods.
-/
import Derived.Test.YtdlmadjlhiblmaaLinkc
import Derived.Test.YtdlmadjlhiblmaaPlan
namespace Go.Proofs.Ytdlmadjlhiblmaa
open Go.RowKit

theorem pk_struct : (match Try.prog.underlying 55 with | some (.struct _) => true | some (.array _ _) => true | _ => false) = true := by kernel_rfl
theorem pk_size : (Try.prog.info? 55).map (·.size) = some 19 := by kernel_rfl
@[go_sem ↓] theorem wp_load_pk (dst : Option Tmp) (x : Operand) (type : TypeId) (pos : String) (after : Array Edge) (guard : Option (Nat × Bool)) (a : Act) (w : World) (K : Act → World → Prop) (Q : Exit → Act → World → Prop) (h : AllV w (a.eval x) 19) :
    Oper.wp Try.prog ⟨dst, .load 55 x, type, pos, after, guard⟩ a w K Q = K (a.put dst (.agg (cellsV w (a.eval x) 19))) w := wp_load_all pk_struct pk_size h

theorem LPk.one {p : LPk} (h : p.msg.ok) : ∀ u ∈ p.cells, u.oneCell' = true := by
  intro u hu
  simp only [LPk.cells, List.mem_cons] at hu
  rcases hu with rfl | rfl | hu
  · rfl
  · rfl
  · exact h.one u hu

set_option maxRecDepth 100000 in
set_option maxHeartbeats 1000000 in
/-- A packet comes that is the next one: take is asked. -/
theorem step_take (b : Nat) (F : Nat → Prop) (L : LinkS) (ft : Nat) (cap : Array Value) (w : World) (h : LinkAt w b F L) (ha : L.acks = []) (p : LPk) (hf : L.flight = [p]) (he : p.epoch = L.epoch) (hs : p.seq = L.want) (hw : L.want ≤ 4611686018427387904)
    (R : Bool → World → Prop) (hcf : ∀ (args : Array Value) (W : World), Sem.run Try.prog (callFunc ft args) W = .ok (.enter ft args) W) (ht : ∀ w1, LinkAt w1 b F L → Mod (fun _ => False) w w1 → Calls Try.prog ft (#[.agg p.msg.cells.toArray] ++ cap) w1 fun e w2 => ∃ r, e = .returned (.bool r) ∧ LinkAt w2 b F L ∧ R r w2 ∧ (∀ (k : Nat) (c : Array Value), w1.heap[k]? = some (Obj.cells c 55 (0, 0)) → w2.heap[k]? = some (Obj.cells c 55 (0, 0)))) :
    Calls Try.prog 10 #[.pointer (some ⟨b, 0, none⟩), .func (.func ft) #[] cap] w fun e w' =>
      (e = .returned (.bool false) ∧ LinkAt w' b F L ∧ R false w') ∨
      (e = .returned (.bool true) ∧ ∃ w2, R true w2 ∧ LinkAt w2 b F L ∧ LinkTo w2 w' b F { L with flight := [], acks := [⟨p.epoch, p.seq⟩], want := L.want + 1 }) := by
  have hL1 := h
  obtain ⟨vo, vf, va, hL⟩ := hL1
  have hpok : p.msg.ok := hL.ok.2 p (by rw [hf]; simp)
  have h1 := hL.acks; have h2 := hL.flight
  rw [ha] at h1; rw [hf] at h2
  obtain ⟨a1, p1, rfl⟩ := h1.none_of
  have hpl := LPk.len hpok
  have hml := hpok.len
  obtain ⟨g, off, cp, rfl, hc1, hcap, hcells, hgw, off', hoff, hown⟩ := h2.head hpl
  have HX := hcells.all hpl
  have HY := hcells.is hpl
  have c3 : w.cell? ⟨b, 3, none⟩ = some (.slice (some ⟨g, off, none⟩) 1 cp) := cell_of hL.row rfl
  have c4 : w.cell? ⟨b, 4, none⟩ = some (.slice a1 0 p1) := cell_of hL.row rfl
  have c0 : w.cell? ⟨b, 0, none⟩ = some (.int .i64 L.epoch) := cell_of hL.row rfl
  have c5 : w.cell? ⟨b, 5, none⟩ = some (.int .i64 L.want) := cell_of hL.row rfl
  have hbw : b < w.heap.size := (Array.getElem?_eq_some_iff.1 hL.row).1
  have q0 : p.cells[0]? = some (.int .i64 p.epoch) := rfl
  have q1 : p.cells[1]? = some (.int .i64 p.seq) := rfl
  obtain ⟨w1, hw1⟩ : ∃ w1 : World, w1 = w.alloc (.cells p.cells.toArray 55) := ⟨_, rfl⟩
  have hm1 : Mod (fun _ => False) w w1 := hw1 ▸ (Mod.refl (fun _ => False) w).alloc _
  have hbx : w1.heap[w.heap.size]? = some (.cells p.cells.toArray 55 (0, 0)) := hw1 ▸ heap_alloc_new w _
  have hbc : CellsAt w1 w.heap.size 0 p.cells := by simpa using CellsAt.row hbx
  have b0 : w1.cell? ⟨w.heap.size, 0, none⟩ = some (.int .i64 p.epoch) := hbc 0 _ rfl
  have b1 : w1.cell? ⟨w.heap.size, 1, none⟩ = some (.int .i64 p.seq) := hbc 1 _ rfl
  have hbm : CellsAt w1 w.heap.size 2 p.msg.cells := fun j u hu => by
    have := hbc (j + 2) u (by simpa [LPk.cells] using hu)
    rwa [show 0 + (j + 2) = 2 + j by omega] at this
  have HX2 := hbm.all hml
  have HY2 := hbm.is hml
  have hL1 := h.mod hm1 (by simp)
  have d0 : w1.cell? ⟨b, 0, none⟩ = some (.int .i64 L.epoch) := hm1.cell c0 (by simp)
  have d5 : w1.cell? ⟨b, 5, none⟩ = some (.int .i64 L.want) := hm1.cell c5 (by simp)
  have Hw1 := Lib.hid hw1
  have Hm1 := Lib.hid hm1
  have HL1 := Lib.hid hL1
  have Hbc := Lib.hid hbc
  have Hbx := Lib.hid hbx
  have Hone := Lib.hid (LPk.one hpok)
  have HL := Lib.hid hL
  have H := Lib.hid h
  have Hown := Lib.hid hown
  have Hoff := Lib.hid hoff
  have Hh2 := Lib.hid h2
  have Ht := Lib.hid ht
  have Hca := Lib.hid ha
  have Hcf := Lib.hid hf
  clear hL h1 h2 ha hf hcells hown hoff h ht hw1 hm1 hL1 hbc hbm hbx
  go_enter Try.func10, Try.ntmps10
  go_wp2_with ((refine wpList_store_new rfl 55 _ _ rfl rfl _ _ p.cells rfl (by rw [hpl]; rfl) (by rw [hpl]; exact pk_size) Hone.out ?_))
  rw [← Hw1.out]
  go_quiet (fail)
  go_wp2_with fail
  refine (Ht.out _ (HL1.out.mod ((Mod.refl (fun _ => False) w1).drewN nq) (by simp)) (Hm1.out.drewN nq)).mono ?_
  rintro e w2 ⟨r, rfl, hL2, hR, hkp⟩
  obtain ⟨vo2, vf2, va2, hI⟩ := hL2
  have h1 := hI.acks; have h2 := hI.flight
  rw [Hca.out] at h1; rw [Hcf.out] at h2
  obtain ⟨a2, p2, rfl⟩ := h1.none_of
  obtain ⟨g2, off2, cp2, rfl, hc12, hcap2, -, hgw2, off2', hoff2, hown2⟩ := h2.head hpl
  have hbx2 : w2.heap[w.heap.size]? = some (.cells p.cells.toArray 55 (0, 0)) := hkp _ _ Hbx.out
  have e0 : w2.cell? ⟨w.heap.size, 0, none⟩ = some (.int .i64 p.epoch) := cell_of hbx2 (by simpa using q0)
  have e1 : w2.cell? ⟨w.heap.size, 1, none⟩ = some (.int .i64 p.seq) := cell_of hbx2 (by simpa using q1)
  have j0 : w2.cell? ⟨b, 0, none⟩ = some (.int .i64 L.epoch) := cell_of hI.row rfl
  have j3 : w2.cell? ⟨b, 3, none⟩ = some (.slice (some ⟨g2, off2, none⟩) 1 cp2) := cell_of hI.row rfl
  have j4 : w2.cell? ⟨b, 4, none⟩ = some (.slice a2 0 p2) := cell_of hI.row rfl
  have j5 : w2.cell? ⟨b, 5, none⟩ = some (.int .i64 L.want) := cell_of hI.row rfl
  have fr : ∀ j, w2.frozen? ⟨b, j, none⟩ = false := fun j => fr_of hI.row
  have hbs : ¬ b = w.heap.size := by omega
  have hbw2 : b < w2.heap.size := (Array.getElem?_eq_some_iff.1 hI.row).1
  have hsw2 : w.heap.size < w2.heap.size := (Array.getElem?_eq_some_iff.1 hbx2).1
  have h1' := hI.acks
  rw [Hca.out] at h1'
  have Hk := Lib.hid h1'
  have Hna : Hid (¬ inBlock (.slice a2 0 p2) b) := Lib.hid fun hi => hI.acks.ne hI.row (by decide) b hi rfl
  have Hnb : Hid (¬ inBlock (.slice a2 0 p2) w.heap.size) := Lib.hid fun hi => hI.acks.ne hbx2 (by decide) _ hi rfl
  have HI := Lib.hid hI
  have Hkp := Lib.hid hbx2
  have HR := Lib.hid hR
  have Hown2 := Lib.hid hown2
  clear hI h1 h2 hkp hbx2 hR hown2 h1' b0 b1 d0 d5 HX HY HX2 HY2 c0 c3 c4 c5 hcf
  cases r with
  | false =>
    clear hoff2
    go_wp2
    go_ret
    exact Or.inl ⟨rfl, ⟨_, _, _, HI.out⟩, HR.out⟩
  | true =>
    rcases hoff2 with ⟨rfl, -, rfl⟩ | ⟨hne, rfl⟩
    · go_wp2_with fail
      go_region
      go_wp2_with fail
      refine wp_region_plan 10 11 (fun x => x.cell? ⟨b, 4, none⟩ = some (.slice a2 0 p2) ∧ x.cell? ⟨w.heap.size, 0, none⟩ = some (.int .i64 L.epoch) ∧ x.cell? ⟨w.heap.size, 1, none⟩ = some (.int .i64 L.want))
        (by kernel_rfl) (by kernel_rfl) (fun _ _ d _ _ h => (by cases d <;> exact h)) (fun w x h => ⟨cell_new h.1 x, cell_new h.2.1 x, cell_new h.2.2 x⟩) (by refine ⟨?_, ?_, ?_⟩ <;> go_simp) ?_
      simp only [List.take_succ_cons, List.take_zero, List.drop_succ_cons, List.drop_zero]
      repeat
        refine stillS_cons (v := ?_) rfl (fun w0 h0 => ?_) ?_
        rotate_left
        first
          | (have h1 := h0 rfl; clear h0; obtain ⟨s4, s0, s1⟩ := h1; go_simp; with_reducible rfl)
          | (clear h0; go_simp; with_reducible rfl)
        simp only [Act.put, List.setIfInBounds_toArray, List.set_cons_zero, List.set_cons_succ]
      refine stillS_nil ?_
      have hro := heap_set (i := 3) (v := .slice (some ⟨g2, off2', none⟩) 0 0) (heap_set (i := 5) (v := .int .i64 (L.want + 1)) HI.out.row)
      have hmo : Mod (fun k => k = b) w2 ((w2.setCell ⟨b, 5, none⟩ (.int .i64 (L.want + 1))).setCell ⟨b, 3, none⟩ (.slice (some ⟨g2, off2', none⟩) 0 0)) := ((Mod.refl (fun k => k = b) w2).setCell (fun _ => rfl) _).setCell (fun _ => rfl) _
      have hko := (Hk.out.setCell (a := ⟨b, 5, none⟩) Hna.out (.int .i64 (L.want + 1))).setCell (a := ⟨b, 3, none⟩) Hna.out (.slice (some ⟨g2, off2', none⟩) 0 0)
      generalize hw3 : ((w2.setCell ⟨b, 5, none⟩ (.int .i64 (L.want + 1))).setCell ⟨b, 3, none⟩ (.slice (some ⟨g2, off2', none⟩) 0 0)) = w3 at *
      have Hro := Lib.hid hro
      have Hmo := Lib.hid hmo
      have Hko := Lib.hid hko
      have Hw3 := Lib.hid hw3
      clear hro hmo hko hw3
      go_wp2_with ((refine wpList_append_sl rfl (.tmp 128) (.tmp 134) 25 rfl 53 2 16 acks_T (.slice a2 0 p2) 0 [] rfl (((Hko.out.alloc _).drew).drew) _ 1 [.int .i64 L.epoch, .int .i64 L.want] rfl (RdSl.oneD w3.drew [.int .i64 L.epoch, .int .i64 L.want] 53 rfl) (by simp [Value.oneCell']) (by decide) (by decide) ?_; intro ad cq w4 hA; have hb4 := hA.2.1.heap (k := b) (heap_old (w := w3) Hro.out) Hna.out; have k4 : w4.cell? ⟨b, 4, none⟩ = some (.slice a2 0 p2) := cell_of hb4 rfl; have f4 : w4.frozen? ⟨b, 4, none⟩ = false := fr_of hb4; have HAp := Lib.hid hA; clear hA hb4))
      go_ret
      refine Or.inr ⟨rfl, w2, HR.out, ⟨_, _, _, HI.out⟩, ?_⟩
      rw [he, hs]
      exact HI.out.acked (a := ⟨L.epoch, L.want⟩) (((Hmo.out.alloc _).drew).drew) (heap_old Hro.out) Hown2.out (fun _ h => h) HAp.out
    · go_wp2_with fail
      go_region
      go_wp2_with fail
      refine wp_region_plan 10 11 (fun x => x.cell? ⟨b, 4, none⟩ = some (.slice a2 0 p2) ∧ x.cell? ⟨w.heap.size, 0, none⟩ = some (.int .i64 L.epoch) ∧ x.cell? ⟨w.heap.size, 1, none⟩ = some (.int .i64 L.want))
        (by kernel_rfl) (by kernel_rfl) (fun _ _ d _ _ h => (by cases d <;> exact h)) (fun w x h => ⟨cell_new h.1 x, cell_new h.2.1 x, cell_new h.2.2 x⟩) (by refine ⟨?_, ?_, ?_⟩ <;> go_simp) ?_
      simp only [List.take_succ_cons, List.take_zero, List.drop_succ_cons, List.drop_zero]
      repeat
        refine stillS_cons (v := ?_) rfl (fun w0 h0 => ?_) ?_
        rotate_left
        first
          | (have h1 := h0 rfl; clear h0; obtain ⟨s4, s0, s1⟩ := h1; go_simp; with_reducible rfl)
          | (clear h0; go_simp; with_reducible rfl)
        simp only [Act.put, List.setIfInBounds_toArray, List.set_cons_zero, List.set_cons_succ]
      refine stillS_nil ?_
      have hro := heap_set (i := 3) (v := .slice (some ⟨g2, (off2 + 19), none⟩) 0 (cp2 - 1)) (heap_set (i := 5) (v := .int .i64 (L.want + 1)) HI.out.row)
      have hmo : Mod (fun k => k = b) w2 ((w2.setCell ⟨b, 5, none⟩ (.int .i64 (L.want + 1))).setCell ⟨b, 3, none⟩ (.slice (some ⟨g2, (off2 + 19), none⟩) 0 (cp2 - 1))) := ((Mod.refl (fun k => k = b) w2).setCell (fun _ => rfl) _).setCell (fun _ => rfl) _
      have hko := (Hk.out.setCell (a := ⟨b, 5, none⟩) Hna.out (.int .i64 (L.want + 1))).setCell (a := ⟨b, 3, none⟩) Hna.out (.slice (some ⟨g2, (off2 + 19), none⟩) 0 (cp2 - 1))
      generalize hw3 : ((w2.setCell ⟨b, 5, none⟩ (.int .i64 (L.want + 1))).setCell ⟨b, 3, none⟩ (.slice (some ⟨g2, (off2 + 19), none⟩) 0 (cp2 - 1))) = w3 at *
      have Hro := Lib.hid hro
      have Hmo := Lib.hid hmo
      have Hko := Lib.hid hko
      have Hw3 := Lib.hid hw3
      clear hro hmo hko hw3
      go_wp2_with ((refine wpList_append_sl rfl (.tmp 128) (.tmp 134) 25 rfl 53 2 16 acks_T (.slice a2 0 p2) 0 [] rfl (((Hko.out.alloc _).drew).drew) _ 1 [.int .i64 L.epoch, .int .i64 L.want] rfl (RdSl.oneD w3.drew [.int .i64 L.epoch, .int .i64 L.want] 53 rfl) (by simp [Value.oneCell']) (by decide) (by decide) ?_; intro ad cq w4 hA; have hb4 := hA.2.1.heap (k := b) (heap_old (w := w3) Hro.out) Hna.out; have k4 : w4.cell? ⟨b, 4, none⟩ = some (.slice a2 0 p2) := cell_of hb4 rfl; have f4 : w4.frozen? ⟨b, 4, none⟩ = false := fr_of hb4; have HAp := Lib.hid hA; clear hA hb4))
      go_ret
      refine Or.inr ⟨rfl, w2, HR.out, ⟨_, _, _, HI.out⟩, ?_⟩
      rw [he, hs]
      exact HI.out.acked (a := ⟨L.epoch, L.want⟩) (((Hmo.out.alloc _).drew).drew) (heap_old Hro.out) Hown2.out (fun _ h => h) HAp.out

end Go.Proofs.Ytdlmadjlhiblmaa
