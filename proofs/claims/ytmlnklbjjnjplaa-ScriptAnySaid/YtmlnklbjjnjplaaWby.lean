/-
  An event's bytes.
-/
import Derived.Test.YtmlnklbjjnjplaaWrite
namespace Go.Proofs.Ytmlnklbjjnjplaa
open Go.RowKit

theorem u8s_one (bs : List UInt8) : ∀ u ∈ u8s bs, u.oneCell' = true := fun u hu => by
  simp only [u8s, List.mem_map] at hu
  obtain ⟨b, -, rfl⟩ := hu
  rfl

theorem wr_bytes (w : World) (p : Nat) (v : Value) (bs : List UInt8) (h : Wtr w p v bs) (hl : bs.length ≤ 10000000) :
    Calls Try.prog 13 #[.pointer (some ⟨p, 0, none⟩)] w fun e w' => ∃ v', e = .returned v' ∧ OwnSl w' 5 1 v' bs.length (u8s bs) ∧ (∀ b, v'.ownBlock = some b → w.heap.size ≤ b) ∧ Mod (fun _ => False) w w' := by
  obtain ⟨va, vc, hv, -⟩ := h.own.shape
  subst hv
  have c0 : w.cell? ⟨p, 0, none⟩ = some (.slice va bs.length vc) := cell_of h.row rfl
  have H := Lib.hid h
  have Hl := Lib.hid hl
  clear h hl
  go_enter Try.func13, Try.ntmps13
  go_wp2_with (first | (refine wpList_append_sl rfl (.const (.slice none 0 0)) (.tmp 6) 22 rfl 5 1 1 bytes_T (.slice none 0 0) 0 [] rfl (OwnSl.nil _ _ _) _ bs.length (u8s bs) rfl H.out.own.rd (u8s_one bs) (by have := Hl.out; omega) (by have := Hl.out; unfold maxLen; omega) ?_; intro ad cap w5 hA; have HAp := Lib.hid hA; clear hA) | fail)
  go_ret
  obtain ⟨h1, h2, h3⟩ := HAp.out
  rw [List.nil_append] at h1
  rw [Nat.zero_add] at h1 h3
  refine ⟨.slice ad bs.length cap, rfl, h1, fun b hb => ?_, h2.mono (fun k _ hk => by cases hk)⟩
  rcases h3 with h | ⟨q, h, hq⟩
  · rw [h] at hb; cases hb
  · rw [h] at hb; cases hb; exact hq

end Go.Proofs.Ytmlnklbjjnjplaa
