/-
  ReadEvent.
-/
import Derived.Test.YtfpghpicknnfgaaRead
namespace Go.Proofs.Ytfpghpicknnfgaa
open Go.RowKit

theorem read_event1 (w : World) (r G ke : Nat) (bs : List UInt8) (h : Rdr w r G bs) (hG : G < w.heap.size) (hke : w.heap[ke]? = some (.cells #[.string ⟨#[]⟩, .slice none 0 0] 26 (0, 0))) (hne : ke ≠ r) (hGe : G ≠ ke) :
    Calls Try.prog 42 #[.pointer (some ⟨r, 0, none⟩), .pointer (some ⟨ke, 0, none⟩)] w fun e w' =>
      (readE bs = none ∧ e = .panicked short ∧ Mod (fun k => k = r) w w') ∨
      (∃ sc l t av, readE bs = some ((sc, l), t) ∧ sc.size ≤ 255 ∧ e = .returned (.tuple #[]) ∧ w'.heap[ke]? = some (.cells #[.string sc, av] 26 (0, 0)) ∧ OwnSl w' 80 6 av l.length (atts l) ∧
        (∀ b, av.ownBlock = some b → w.heap.size ≤ b) ∧ Rdr w' r G t ∧ Mod (fun k => k = r ∨ k = ke) w w') := by
  have hkl : ke < w.heap.size := (Array.getElem?_eq_some_iff.1 hke).1
  have He := Lib.hid (rd_event w r G bs h hG)
  have Hke := Lib.hid hke
  have hrl := h.lt
  clear h hke
  go_enter Try.func42, Try.ntmps42
  go_wp2_with fail
  refine He.out.mono ?_
  rintro e w2 (⟨h1, rfl, hm2⟩ | ⟨sc, l, t, av, h1, hsc, rfl, hown, hfresh, hr2, hm2⟩)
  · exact ⟨rfl, .inl ⟨h1, rfl, hm2⟩⟩
  obtain ⟨ava, avc, rfl, -⟩ := hown.shape
  have hk2 := hm2.heap Hke.out hne
  have H1 := Lib.hid h1
  have Hsc := Lib.hid hsc
  have Hown := Lib.hid hown
  have Hfresh := Lib.hid hfresh
  have Hr2 := Lib.hid hr2
  have Hm2 := Lib.hid hm2
  have Hk2 := Lib.hid hk2
  clear h1 hsc hown hfresh hr2 hm2 hk2 He
  go_wp2_with (first | (refine wpList_store_row rfl 26 (.tmp 1) (.tmp 4) rfl ke rfl _ 26 Hk2.out [.string sc, .slice ava l.length avc] rfl 2 rfl rfl (by kernel_rfl) rfl ?_; intro w7 h7 hm7; have H7 := Lib.hid h7; have Hm7 := Lib.hid hm7; clear h7 hm7) | fail)
  refine ⟨rfl, .tuple #[], by simp [results, Try.results42], .inr ⟨sc, l, t, H1.out, Hsc.out, rfl, .slice ava l.length avc, H7.out, ?_, Hfresh.out, ?_, ?_⟩⟩
  · exact Hown.out.mod Hm7.out (fun b hb => by have := Hfresh.out b hb; omega)
  · exact Hr2.out.mod Hm7.out (fun h => hne h.symm) (fun _ => hGe)
  · exact ((Hm2.out.mono (fun _ _ h => .inl h)).on Hm7.out (fun b hb => .inl (.inr hb)))

/-- The event of bytes. -/
theorem read_event (v : Value) (G : Nat) (bs : List UInt8) (w : World) (hb : BytesAt w G v bs) (hG : G ≤ w.heap.size) :
    Calls Try.prog 12 #[v] w fun e w' => ∃ sc l av ok, e = .returned (.tuple #[.agg #[.string sc, av], .bool ok]) ∧ OwnSl w' 80 6 av l.length (atts l) ∧ (∀ b, av.ownBlock = some b → w.heap.size ≤ b) ∧
      sc.size ≤ 255 ∧ Mod (fun _ => False) w w' ∧ ((ok = true ∧ readE bs = some ((sc, l), [])) ∨ (ok = false ∧ (∀ p, readE bs ≠ some (p, [])) ∧ sc = ⟨#[]⟩ ∧ l = [])) := by
  have hmf : ∀ (fn : Fn) (first cap : Array Value) (w : World), (Instr.makeFunc fn first cap).run Try.prog w = .ok (.func fn first cap) w := fun _ _ _ _ => rfl
  obtain ⟨wb, hwb⟩ : ∃ wb : World, wb = (w.alloc (.cells #[.string ⟨#[]⟩, .slice none 0 0] 26)).alloc (.cells #[.string ⟨#[]⟩, .slice none 0 0] 26) := ⟨_, rfl⟩
  have hmb : Mod (fun _ => False) w wb := hwb ▸ ((Mod.refl (fun _ => False) w).alloc _).alloc _
  have hk2 : wb.heap[w.heap.size]? = some (.cells #[.string ⟨#[]⟩, .slice none 0 0] 26 (0, 0)) := hwb ▸ heap_old (heap_alloc_new w _)
  have hk4 : wb.heap[w.heap.size + 1]? = some (.cells #[.string ⟨#[]⟩, .slice none 0 0] 26 (0, 0)) := hwb ▸ heap_alloc2 w _ _
  have hsz : wb.heap.size = w.heap.size + 2 := by rw [hwb]; simp
  have hc := read_at v G bs 42 #[.pointer (some ⟨w.heap.size + 1, 0, none⟩)] wb (hb.mod hmb (fun _ h => h)) (by omega) (fun args w => by simp [go_sem])
    (fun k ok w2 => Mod (fun j => j = w.heap.size + 1) wb w2 ∧ ((readE bs = none ∧ ok = false) ∨ ∃ sc l t av, readE bs = some ((sc, l), t) ∧ ok = t.isEmpty ∧ sc.size ≤ 255 ∧ OwnSl w2 80 6 av l.length (atts l) ∧
      (∀ b, av.ownBlock = some b → wb.heap.size ≤ b ∧ b ≠ k) ∧ w2.heap[w.heap.size + 1]? = some (.cells #[.string sc, av] 26 (0, 0))))
    (fun r k w1 hm1 hk hr hkr hkl hrd hkh => (read_event1 w1 r G (w.heap.size + 1) bs hrd (by have := hm1.size; omega) (hm1.heap hk4 (by simp)) (by omega) (by omega)).mono fun e w2 h => by
      rcases h with ⟨h1, h2, h3⟩ | ⟨sc, l, t, av, h1, h2, h3, h4, h5, h6, h7, h8⟩
      · exact ⟨h3.heap hkh hkr, .inl ⟨h2, hm1.on h3 (fun b hb => .inr (by omega)) |>.mono (fun _ _ h => h.elim), .inl ⟨h1, rfl⟩⟩⟩
      · refine ⟨h8.heap hkh (by omega), .inr ⟨t, h3, h7, (hm1.mono (fun _ _ h => h.elim)).on h8 (fun b hb => by omega), .inr ⟨sc, l, t, av, h1, rfl, h2, h5, fun b hb => ?_, h4⟩⟩⟩
        have := h6 b hb
        have := hm1.size
        omega)
  have Hc := Lib.hid hc
  have Hk2 := Lib.hid hk2
  have Hk4 := Lib.hid hk4
  have Hmb := Lib.hid hmb
  have Hwb := Lib.hid hwb
  clear hc hk2 hk4 hmb hwb hb
  go_enter Try.func12, Try.ntmps12
  go_wp2_with fail
  rw [← Hwb.out]
  refine Hc.out.mono ?_
  rintro e w3 ⟨ok, w2, k, rfl, ⟨hm2, hcase⟩, hk, hm3⟩
  have hm3' : Mod (fun j => j = w.heap.size + 1) wb w3 := hm2.on hm3 (fun b hb => .inr (by omega))
  have hg2 := hm3'.heap Hk2.out (by omega)
  have Hg2 := Lib.hid hg2
  have Hm3 := Lib.hid hm3'
  clear hm3' hg2 Hc
  cases ok with
  | false =>
    go_wp2_with (first | (refine wpList_store_row rfl 26 (.tmp 2) (.tmp 9) rfl w.heap.size rfl _ 26 Hg2.out [.string ⟨#[]⟩, .slice none 0 0] rfl 2 rfl rfl (by kernel_rfl) rfl ?_; intro w7 h7 hm7; have H7 := Lib.hid h7; have Hm7 := Lib.hid hm7; clear h7 hm7) | fail)
    refine bodyPost_ret (v := .tuple #[.agg #[.string ⟨#[]⟩, .slice none 0 0], .bool false]) ?_ rfl ⟨⟨#[]⟩, [], .slice none 0 0, false, rfl, ?_, ?_, ?_, ?_, ?_⟩
    · have hl := run_loadVar_cells (P := Try.prog) 26 w.heap.size 0 [.string ⟨#[]⟩, .slice none 0 0] (CellsAt.row H7.out) (by kernel_rfl) (by kernel_rfl)
      simp [results, Try.results12, Result.andThen, asAddr, hl]
    · exact OwnSl.nil _ _ _
    · exact fun b hb => by cases hb
    · exact Nat.zero_le _
    · exact ((Hmb.out.on Hm3.out (fun b hb => .inr (by omega))).on Hm7.out (fun b hb => .inr (by omega)))
    · refine .inr ⟨rfl, fun p hp => ?_, rfl, rfl⟩
      rcases hcase with ⟨h, -⟩ | ⟨sc, l, t, av, h1, h2, -⟩
      · rw [h] at hp; cases hp
      · rw [h1] at hp; cases hp; cases h2
  | true =>
    rcases hcase with ⟨-, h⟩ | ⟨sc, l, t, av, h1, h2, h3, h4, h5, h6⟩
    · cases h
    obtain rfl : t = [] := List.isEmpty_iff.1 h2.symm
    clear h2
    have Hown := Lib.hid (h4.mod hm3 (fun b hb => (h5 b hb).2))
    have H5 := Lib.hid h5
    have H1 := Lib.hid h1
    have H3 := Lib.hid h3
    obtain ⟨ava, avc, rfl, -⟩ := h4.shape
    clear h1 h3 h4 h5
    have hg4 := hm3.heap h6 (by omega)
    go_wp2_with (first | (refine wpList_load_cells rfl 26 (.tmp 4) rfl (w.heap.size + 1) 0 rfl [.string sc, .slice ava l.length avc] (CellsAt.row hg4) (by kernel_rfl) (by kernel_rfl) ?_) | (refine wpList_store_row rfl 26 (.tmp 2) (.tmp 10) rfl w.heap.size rfl _ 26 Hg2.out [.string sc, .slice ava l.length avc] rfl 2 rfl rfl (by kernel_rfl) rfl ?_; intro w7 h7 hm7; have H7 := Lib.hid h7; have Hm7 := Lib.hid hm7; clear h7 hm7) | fail)
    refine bodyPost_ret (v := .tuple #[.agg #[.string sc, .slice ava l.length avc], .bool true]) ?_ rfl ⟨sc, l, .slice ava l.length avc, true, rfl, ?_, ?_, ?_, ?_, ?_⟩
    · have hl := run_loadVar_cells (P := Try.prog) 26 w.heap.size 0 [.string sc, .slice ava l.length avc] (CellsAt.row H7.out) (by kernel_rfl) (by kernel_rfl)
      simp [results, Try.results12, Result.andThen, asAddr, hl]
    · exact Hown.out.mod Hm7.out (fun b hb => by have := (H5.out b hb).1; omega)
    · exact fun b hb => by have := (H5.out b hb).1; omega
    · exact H3.out
    · exact ((Hmb.out.on Hm3.out (fun b hb => .inr (by omega))).on Hm7.out (fun b hb => .inr (by omega)))
    · exact .inl ⟨rfl, H1.out⟩
end Go.Proofs.Ytfpghpicknnfgaa
