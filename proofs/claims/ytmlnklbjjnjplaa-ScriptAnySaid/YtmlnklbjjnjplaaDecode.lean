/-
  script.Decode.
-/
import Derived.Test.YtmlnklbjjnjplaaDec1
namespace Go.Proofs.Ytmlnklbjjnjplaa
open Go.RowKit

theorem OpsAt.low {w : World} {B C : Nat} {v : Value} {l : List (PO × Lie)} (h : OpsAt w B v l) (hC : C ≤ B) : OpsAt w C v l :=
  ⟨h.own, fun b hb => Nat.le_trans hC (h.vb b hb), fun p hp => (h.ops p hp).low hC, h.apart⟩
/-- The bytes are read as far as they are ops. -/
def DecEnd (t : List UInt8) : Prop := readO t = none ∨ ∃ o t', readO t = some (o, false, t')

/-- What Read's call has done. -/
def DecGood (w wb : World) (bs : List UInt8) (k : Nat) (w2 : World) : Prop :=
  ∃ (l : List (PO × Lie)) (t : List UInt8) (v : Value), Dec bs (l.map Prod.fst) t ∧ DecEnd t ∧ OpsAt w2 (k + 1) v l ∧ w2.heap[w.heap.size]? = some (.cells #[v] 24 (0, 0)) ∧ Mod (fun j => j = w.heap.size) wb w2

set_option maxHeartbeats 2000000 in
theorem decode_at (w : World) (bv : Value) (G : Nat) (bs : List UInt8) (hb : BytesAt w G bv bs) (hG : G < w.heap.size) (hbl : bs.length ≤ 2000) :
    Calls Try.prog 5 #[bv] w fun e w' => ∃ l t v, e = .returned v ∧ Dec bs (l.map Prod.fst) t ∧ DecEnd t ∧ OpsAt w' w.heap.size v l ∧ Mod (fun _ => False) w w' := by
  have hmf : ∀ (fn : Fn) (first cap : Array Value) (w : World), (Instr.makeFunc fn first cap).run Try.prog w = .ok (.func fn first cap) w := fun _ _ _ _ => rfl
  obtain ⟨wb, hwb⟩ : ∃ wb : World, w.alloc (.cells #[.slice none 0 0] 24) = wb := ⟨_, rfl⟩
  have hmwb : Mod (fun _ => False) w wb := hwb ▸ (Mod.refl (fun _ => False) w).alloc _
  have hgwb := heap_alloc_new w (.cells #[.slice none 0 0] 24)
  rw [hwb] at hgwb
  have hzwb : wb.heap.size = w.heap.size + 1 := by rw [← hwb]; simp
  have hc := read_at bv G bs 10 #[.pointer (some ⟨w.heap.size, 0, none⟩)] wb (hb.mod hmwb (fun _ h => h)) (by omega) (fun args w => by simp [go_sem])
    (fun k _ w2 => DecGood w wb bs k w2)
    (fun r k w1 hm1 hk hr hkr hkl hrd hkh => (dec1_at w1 r G w.heap.size bs hrd (by have := hm1.size; omega) (hm1.heap hgwb (fun h => h)) (by omega) (by omega) hbl).mono fun e w2 h => by
      obtain ⟨l, t, v, h1, h2, h3, h4, h5⟩ := h
      have hgood : DecEnd t → DecGood w wb bs k w2 := fun he => ⟨l, t, v, h1, he, h2.low (by omega), h3, (hm1.mono (fun _ _ h => h.elim)).upon h4 (fun b hb => by omega)⟩
      refine ⟨h4.heap hkh (by omega), ?_⟩
      rcases h5 with ⟨h5, h6⟩ | ⟨o, t', h5, h6, h7⟩
      · exact .inl ⟨h6, hgood (.inl h5)⟩
      · exact .inr ⟨t', h6, h7, hgood (.inr ⟨o, t', h5⟩)⟩)
  have Hc := Lib.hid hc
  have Hmwb := Lib.hid hmwb
  have Hgwb := Lib.hid hgwb
  have Hwb := Lib.hid hwb
  clear hc hmwb hgwb hwb hb
  go_enter Try.func5, Try.ntmps5
  go_wp2_with fail
  rw [show w.alloc _ = wb from Hwb.out]
  refine Hc.out.mono ?_
  rintro e w3 ⟨ok, w2, k, rfl, ⟨l, t, v, h1, h2, h3, h4, h5⟩, hk, hm3⟩
  have h3' := h3.mod hm3 (fun b (hb : b = k) => by omega)
  have h4' := hm3.heap h4 (fun e : w.heap.size = k => by omega)
  have c0 : w3.cell? ⟨w.heap.size, 0, none⟩ = some v := cell_of h4' rfl
  have hm03 : Mod (fun _ => False) w w3 := (Hmwb.out.upon h5 (fun b (hb : b = w.heap.size) => .inr (by omega))).upon hm3 (fun b (hb : b = k) => .inr (by omega))
  have H1 := Lib.hid h1
  have H2 := Lib.hid h2
  have H3' := Lib.hid h3'
  have Hm03 := Lib.hid hm03
  clear h1 h2 h3' hm03 h3 h4 h4' h5 hm3
  go_wp2_with fail
  go_ret
  exact ⟨l, t, v, rfl, H1.out, H2.out, H3'.out.low (by omega), Hm03.out⟩
end Go.Proofs.Ytmlnklbjjnjplaa
