/-
  An event's bytes.
-/
import Derived.Test.YtfpghpicknnfgaaWrev
namespace Go.Proofs.Ytfpghpicknnfgaa
open Go.RowKit

theorem u8s_one (bs : List UInt8) : ∀ u ∈ u8s bs, u.oneCell' = true := fun u hu => by
  simp only [u8s, List.mem_map] at hu
  obtain ⟨b, -, rfl⟩ := hu
  rfl

theorem wr_bytes (w : World) (p : Nat) (v : Value) (bs : List UInt8) (h : Wtr w p v bs) (hl : bs.length ≤ 10000000) :
    Calls Try.prog 19 #[.pointer (some ⟨p, 0, none⟩)] w fun e w' => ∃ v', e = .returned v' ∧ OwnSl w' 5 1 v' bs.length (u8s bs) ∧ (∀ b, v'.ownBlock = some b → w.heap.size ≤ b) ∧ Mod (fun _ => False) w w' := by
  obtain ⟨va, vc, hv, -⟩ := h.own.shape
  subst hv
  have c0 : w.cell? ⟨p, 0, none⟩ = some (.slice va bs.length vc) := cell_of h.row rfl
  have H := Lib.hid h
  have Hl := Lib.hid hl
  clear h hl
  go_enter Try.func19, Try.ntmps19
  go_wp2_with (first | (refine wpList_append_sl rfl (.const (.slice none 0 0)) (.tmp 6) 22 rfl 5 1 1 bytes_T (.slice none 0 0) 0 [] rfl (OwnSl.nil _ _ _) _ bs.length (u8s bs) rfl H.out.own.rd (u8s_one bs) (by have := Hl.out; omega) (by have := Hl.out; unfold maxLen; omega) ?_; intro ad cap w5 hA; have HAp := Lib.hid hA; clear hA) | fail)
  go_ret
  obtain ⟨h1, h2, h3⟩ := HAp.out
  rw [List.nil_append] at h1
  rw [Nat.zero_add] at h1 h3
  refine ⟨.slice ad bs.length cap, rfl, h1, fun b hb => ?_, h2.mono (fun k _ hk => by cases hk)⟩
  rcases h3 with h | ⟨q, h, hq⟩
  · rw [h] at hb; cases hb
  · rw [h] at hb; cases hb; exact hq

set_option maxHeartbeats 400000 in
/-- An event's bytes. -/
theorem ev_bytes (w : World) (sc : ByteArray) (hsc : sc.size ≤ 100000) (av : Value) (l : List Att) (hav : RdSl w 6 av l.length (atts l)) (hal : ∀ b, av.ownBlock = some b → b < w.heap.size) (hll : l.length ≤ 255) (hfit : ∀ a ∈ l, a.fit) :
    Calls Try.prog 14 #[.agg #[.string sc, av]] w fun e w' => ∃ v', e = .returned v' ∧ OwnSl w' 5 1 v' (evBytes sc l).length (u8s (evBytes sc l)) ∧ (∀ b, v'.ownBlock = some b → w.heap.size ≤ b) ∧ Mod (fun _ => False) w w' := by
  obtain ⟨wb, hwb⟩ : ∃ wb : World, wb = (w.alloc (.cells #[.string sc, av] 26)).alloc (.cells #[.slice none 0 0] 34) := ⟨_, rfl⟩
  have hmb : Mod (fun _ => False) w wb := hwb ▸ ((Mod.refl (fun _ => False) w).alloc _).alloc _
  have hg1 : wb.heap[w.heap.size]? = some (.cells #[.string sc, av] 26 (0, 0)) := hwb ▸ heap_old (heap_alloc_new w _)
  have hg2 : wb.heap[w.heap.size + 1]? = some (.cells #[.slice none 0 0] 34 (0, 0)) := hwb ▸ heap_alloc2 w _ _
  have hrd : RdSl wb 6 av l.length (atts l) := by
    obtain ⟨h1, a, cap, h2, h3, h4, h5⟩ := hav
    refine ⟨h1, a, cap, h2, h3, h4, fun b hb => ?_⟩
    obtain ⟨g, off, h6, h7⟩ := h5 b hb
    exact ⟨g, off, h6, fun j u hu => hmb.cell (h7 j u hu) (fun h => h)⟩
  have he := wr_event wb (w.heap.size + 1) (.slice none 0 0) [] ⟨hg2, OwnSl.nil _ _ _⟩ (by simp) sc hsc av l hrd hll hfit (fun b hb => by have := hal b hb; exact ⟨by omega, fun h => by cases h⟩)
  have hlen : (evBytes sc l).length ≤ 10000000 := by
    have hf : (l.flatMap attBytes).length ≤ 600 * l.length := by
      clear he hrd hal hav hll
      induction l with
      | nil => simp
      | cons x l ih =>
        rw [List.flatMap_cons, List.length_append, List.length_cons]
        have h1 := attBytes_length x (hfit x (by simp)).1 (hfit x (by simp)).2.1
        have h2 := ih (fun a ha => hfit a (by simp [ha]))
        omega
    unfold evBytes
    rw [List.length_append, List.length_append, List.length_cons, txt_length]
    simp only [List.length_cons, List.length_nil]
    omega
  obtain ⟨ava, avc, rfl⟩ : ∃ a c, av = .slice a l.length c := by obtain ⟨-, a, c, h, -⟩ := hav; exact ⟨a, c, h⟩
  have He := Lib.hid he
  have Hlen := Lib.hid hlen
  have Hmb := Lib.hid hmb
  have Hwb := Lib.hid hwb
  clear he hlen hmb hrd hav hal hfit hg2 hsc hll hwb hg1
  go_enter Try.func14, Try.ntmps14
  go_wp2_with fail
  rw [← Hwb.out]
  refine He.out.mono ?_
  rintro e w1 ⟨rfl, v1, hw1, hwr1⟩
  have hw1 : Wtr w1 (w.heap.size + 1) v1 (evBytes sc l) := hw1
  have hm1 : Mod (fun _ => False) w w1 := Hmb.out.on hwr1.mod (fun b hb => by
    rcases hb with hb | hb
    · exact .inr (by omega)
    · cases hb)
  have Hy := Lib.hid (wr_bytes w1 (w.heap.size + 1) v1 _ hw1 Hlen.out)
  have Hm1 := Lib.hid hm1
  clear hw1 hwr1 hm1 He
  go_wp2_with fail
  refine Hy.out.mono ?_
  rintro e w2 ⟨v2, rfl, hown, hfresh, hm2⟩
  have Hown := Lib.hid hown
  have Hfresh := Lib.hid hfresh
  have Hm2 := Lib.hid hm2
  clear hown hfresh hm2 Hy
  go_wp2
  go_ret
  exact ⟨v2, rfl, Hown.out, fun b hb => Nat.le_trans Hm1.out.size (Hfresh.out b hb), Hm1.out.trans Hm2.out (fun _ _ h => h)⟩
end Go.Proofs.Ytfpghpicknnfgaa
