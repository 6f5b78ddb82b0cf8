/-
  The contract of link's Step.
-/
import Derived.Test.YtdlmadjlhiblmaaLinkc

namespace Go.Proofs.Ytdlmadjlhiblmaa
open Go.RowKit

set_option maxRecDepth 100000 in
set_option maxHeartbeats 400000 in
/-- An answer comes: it is for the first message, or it isn't. -/
theorem step_ack (b : Nat) (F : Nat → Prop) (L : LinkS) (a : LAck) (rest : List LAck) (tk : Value) (w : World) (h : LinkAt w b F L) (ha : L.acks = a :: rest) (hb : L.base ≤ 4611686018427387904) (m : LMsg) (outs : List LMsg) (ho : L.out = m :: outs) (he : a.epoch = L.epoch) (hs : a.seq = L.base) :
    Calls Try.prog 10 #[.pointer (some ⟨b, 0, none⟩), tk] w fun e w' => e = .returned (.bool true) ∧ LinkTo w w' b F { L with acks := rest, out := outs, base := L.base + 1 } := by
  obtain ⟨vo, vf, va, hL⟩ := h
  have hacks := hL.acks
  rw [ha] at hacks
  obtain ⟨g, off, cap, rfl, hc1, hcap, hcells, hgw, off', hoff, hown⟩ := hacks.head rfl
  have houts := hL.out
  rw [ho] at houts
  have hmok : m.ok := hL.ok.1 m (by rw [ho]; simp)
  obtain ⟨g2, off2, cap2, rfl, hc12, hcap2, _, hgw2, off2', hoff2, hown2⟩ := houts.head hmok.len
  have k0 : w.cell? ⟨g, off, none⟩ = some (.int .i64 a.epoch) := hcells 0 _ rfl
  have k1 : w.cell? ⟨g, off + 1, none⟩ = some (.int .i64 a.seq) := hcells 1 _ rfl
  have c0 : w.cell? ⟨b, 0, none⟩ = some (.int .i64 L.epoch) := cell_of hL.row rfl
  have c1 : w.cell? ⟨b, 1, none⟩ = some (.slice (some ⟨g2, off2, none⟩) (outs.length + 1) cap2) := cell_of hL.row rfl
  have c2 : w.cell? ⟨b, 2, none⟩ = some (.int .i64 L.base) := cell_of hL.row rfl
  have c4 : w.cell? ⟨b, 4, none⟩ = some (.slice (some ⟨g, off, none⟩) (rest.length + 1) cap) := cell_of hL.row rfl
  have fr : ∀ j, w.frozen? ⟨b, j, none⟩ = false := fun j => fr_of hL.row
  have hbw : b < w.heap.size := (Array.getElem?_eq_some_iff.1 hL.row).1
  have hl1 : (rest.length : Int) ≤ 9223372036854775806 := by have := hacks.le; unfold maxLen at this; simp only [List.length_cons] at this; omega
  have hl2 : (outs.length : Int) ≤ 9223372036854775806 := by have := houts.le; unfold maxLen at this; simp only [List.length_cons] at this; omega
  have HL := Lib.hid hL
  have Hown := Lib.hid hown
  have Hown2 := Lib.hid hown2
  have Ha := Lib.hid ha
  have Ho := Lib.hid ho
  clear hL hown hacks hcells houts hown2 ha ho
  rcases hoff with ⟨rfl, rfl, rfl⟩ | ⟨hne, rfl⟩ <;> rcases hoff2 with ⟨rfl, rfl, rfl⟩ | ⟨hne2, rfl⟩
  all_goals
    go_enter Try.func10, Try.ntmps10
    go_wp2_with fail
    go_quiet (fail)
    go_wp2_with fail
    go_region
    go_wp2
    go_ret
    refine ⟨rfl, HL.out.close (vf' := vf) ?_ ?_ Hown2.out HL.out.flight Hown.out (fun _ h => h) (fun _ h => h) (fun _ h => h) ⟨fun x hx => HL.out.ok.1 x (by rw [Ho.out]; simp [hx]), HL.out.ok.2⟩⟩
    · exact (((((Mod.refl (fun k => k = b) w).setCell (fun _ => rfl) _).alloc _).drewN _).setCell (fun _ => rfl) _).setCell (fun _ => rfl) _
    · exact heap_set (heap_set (heap_old (heap_set HL.out.row)))
end Go.Proofs.Ytdlmadjlhiblmaa
