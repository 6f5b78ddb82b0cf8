/-
  The contract of link's Step: a packet is sent; nothing is to be done.
-/
import Derived.Test.YtdlmadjlhiblmaaLinkc
import Derived.Test.YtdlmadjlhiblmaaPlan
namespace Go.Proofs.Ytdlmadjlhiblmaa
open Go.RowKit

set_option maxRecDepth 100000 in
set_option maxHeartbeats 400000 in
/-- Nothing is on its way, nothing waits. -/
theorem step_idle (b : Nat) (F : Nat → Prop) (L : LinkS) (tk : Value) (w : World) (h : LinkAt w b F L) (ha : L.acks = []) (hf : L.flight = []) (ho : L.out = []) :
    Calls Try.prog 10 #[.pointer (some ⟨b, 0, none⟩), tk] w fun e w' => e = .returned (.bool false) ∧ w = w' := by
  obtain ⟨vo, vf, va, hL⟩ := h
  have h1 := hL.acks; have h2 := hL.flight; have h3 := hL.out
  rw [ha] at h1; rw [hf] at h2; rw [ho] at h3
  obtain ⟨a1, p1, rfl⟩ := h1.none_of
  obtain ⟨a2, p2, rfl⟩ := h2.none_of
  obtain ⟨a3, p3, rfl⟩ := h3.none_of
  have c1 : w.cell? ⟨b, 1, none⟩ = some (.slice a3 0 p3) := cell_of hL.row rfl
  have c3 : w.cell? ⟨b, 3, none⟩ = some (.slice a2 0 p2) := cell_of hL.row rfl
  have c4 : w.cell? ⟨b, 4, none⟩ = some (.slice a1 0 p1) := cell_of hL.row rfl
  clear hL h1 h2 h3 ha hf ho
  go_enter Try.func10, Try.ntmps10
  go_wp2
  go_ret
  exact ⟨rfl, rfl⟩

set_option maxRecDepth 100000 in
set_option maxHeartbeats 400000 in
/-- The first message is sent. -/
theorem step_send (b : Nat) (F : Nat → Prop) (L : LinkS) (tk : Value) (w : World) (h : LinkAt w b F L) (ha : L.acks = []) (hf : L.flight = []) (m : LMsg) (outs : List LMsg) (ho : L.out = m :: outs) :
    Calls Try.prog 10 #[.pointer (some ⟨b, 0, none⟩), tk] w fun e w' => e = .returned (.bool true) ∧ LinkTo w w' b F { L with flight := [⟨L.epoch, L.base, m⟩] } := by
  obtain ⟨vo, vf, va, hL⟩ := h
  have hmok : m.ok := hL.ok.1 m (by rw [ho]; simp)
  have h1 := hL.acks; have h2 := hL.flight; have h3 := hL.out
  rw [ha] at h1; rw [hf] at h2; rw [ho] at h3
  obtain ⟨a1, p1, rfl⟩ := h1.none_of
  obtain ⟨a2, p2, rfl⟩ := h2.none_of
  obtain ⟨g2, off2, cap2, rfl, hc12, hcap2, hcells, hgw2, _⟩ := h3.head hmok.len
  have hml := hmok.len
  have HX := hcells.all hml
  have HY := hcells.is hml
  have hl2 : (outs.length : Int) ≤ 9223372036854775806 := by have := h3.le; unfold maxLen at this; simp only [List.length_cons] at this; omega
  have c0 : w.cell? ⟨b, 0, none⟩ = some (.int .i64 L.epoch) := cell_of hL.row rfl
  have c2 : w.cell? ⟨b, 2, none⟩ = some (.int .i64 L.base) := cell_of hL.row rfl
  have c1 : w.cell? ⟨b, 1, none⟩ = some (.slice (some ⟨g2, off2, none⟩) (outs.length + 1) cap2) := cell_of hL.row rfl
  have c3 : w.cell? ⟨b, 3, none⟩ = some (.slice a2 0 p2) := cell_of hL.row rfl
  have c4 : w.cell? ⟨b, 4, none⟩ = some (.slice a1 0 p1) := cell_of hL.row rfl
  have fr : ∀ j, w.frozen? ⟨b, j, none⟩ = false := fun j => fr_of hL.row
  have hbw : b < w.heap.size := (Array.getElem?_eq_some_iff.1 hL.row).1
  obtain ⟨p, hp⟩ : ∃ p : LPk, p = ⟨L.epoch, L.base, m⟩ := ⟨_, rfl⟩
  have hpl : p.cells.length = 19 := LPk.len (p := p) (by rw [hp]; exact hmok)
  have HF2 : ∀ z0 z1 z2 z3 z4 z5 z6 z7 z8 z9 z10 z11 z12 z13 z14 z15 z16 : Value, List.foldl (fun cs x => cs.setIfInBounds (2 + x.snd) x.fst) #[Value.int .i64 L.epoch, Value.int .i64 L.base, z0, z1, z2, z3, z4, z5, z6, z7, z8, z9, z10, z11, z12, z13, z14, z15, z16] m.cells.zipIdx = p.cells.toArray := by
    intros
    rw [fold_cells_at 2 m.cells _ (by simp [hml]), hp, hml]
    simp [LPk.cells]
  have HF : ∀ A : Array Value, A.size = 19 → List.foldl (fun cs x => cs.setIfInBounds x.snd x.fst) A p.cells.zipIdx = p.cells.toArray := fun A hA => fold_cells _ A (by rw [hA, hpl])
  have hone : ∀ u ∈ p.cells, u.oneCell' = true := by
    rw [hp]
    intro u hu
    simp only [LPk.cells, List.mem_cons] at hu
    rcases hu with rfl | rfl | hu
    · rfl
    · rfl
    · exact hmok.one u hu
  have hfl := hL.flight
  rw [hf] at hfl
  have Hfl := Lib.hid hfl
  have Hnf : Hid (¬ inBlock (.slice a2 0 p2) b) := Lib.hid fun hi => hL.flight.ne hL.row (by decide) b hi rfl
  have Hcells := Lib.hid hcells
  have Hone := Lib.hid hone
  have Hp := Lib.hid hp
  have Ho := Lib.hid ho
  have HL := Lib.hid hL
  clear hL h1 h2 h3 ha hf hcells ho hp hone hfl
  go_enter Try.func10, Try.ntmps10
  go_wp2_with fail
  refine wp_region_plan 20 21 (fun x => x.cell? ⟨b, 0, none⟩ = some (.int .i64 L.epoch) ∧ x.cell? ⟨b, 2, none⟩ = some (.int .i64 L.base) ∧ x.cell? ⟨b, 1, none⟩ = some (.slice (some ⟨g2, off2, none⟩) (outs.length + 1) cap2) ∧ x.cell? ⟨b, 3, none⟩ = some (.slice a2 0 p2) ∧ CellsAt x g2 off2 m.cells)
    (by kernel_rfl) (by kernel_rfl) (fun _ _ d _ _ h => (by cases d <;> exact h)) (fun w x h => ⟨cell_new h.1 x, cell_new h.2.1 x, cell_new h.2.2.1 x, cell_new h.2.2.2.1 x, h.2.2.2.2.old x⟩) ⟨c0, c2, c1, c3, Hcells.out⟩ ?_
  simp only [List.take_succ_cons, List.take_zero, List.drop_succ_cons, List.drop_zero]
  repeat
    refine stillS_cons (v := ?_) rfl (fun w0 h0 => ?_) ?_
    rotate_left
    first
      | (have h1 := h0 rfl; clear h0; obtain ⟨s0, s2, s1, s3, s5⟩ := h1; have s6 := s5.all hml; have s7 := s5.is hml; clear s5; go_simp; with_reducible rfl)
      | (clear h0; go_simp; with_reducible rfl)
    simp only [Act.put, List.setIfInBounds_toArray, List.set_cons_zero, List.set_cons_succ]
  refine stillS_nil ?_
  go_wp2_with ((refine wpList_append_sl rfl (.tmp 149) (.tmp 165) 24 rfl 55 19 248 packets_T (.slice a2 0 p2) 0 [] rfl ((Hfl.out.alloc _).drew) _ 1 p.cells rfl (RdSl.oneD w p.cells 55 hpl) Hone.out (by decide) (by decide) ?_; intro ad cap w2 hA; have hb2 := hA.2.1.heap (k := b) (heap_old (w := w) HL.out.row) Hnf.out; have k3 : w2.cell? ⟨b, 3, none⟩ = some (.slice a2 0 p2) := cell_of hb2 rfl; have f3 : w2.frozen? ⟨b, 3, none⟩ = false := fr_of hb2; have HAp := Lib.hid hA; clear hA hb2))
  go_ret
  refine ⟨rfl, ?_⟩
  have := HL.out.sent (((Mod.refl _ _).alloc _).drew) (by rw [Hp.out]; exact hmok) HAp.out
  rw [Hp.out] at this
  exact this
end Go.Proofs.Ytdlmadjlhiblmaa
