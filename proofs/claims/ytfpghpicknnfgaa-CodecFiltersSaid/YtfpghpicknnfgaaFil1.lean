/-
  CodecFilters: its call.
-/
import Derived.Test.YtfpghpicknnfgaaFilfwd
namespace Go.Proofs.Ytfpghpicknnfgaa
open Go.RowKit

theorem filters1 (w : World) (r G ke : Nat) (bs : List UInt8) (h : Rdr w r G bs) (hG : G < w.heap.size) (hke : w.heap[ke]? = some (.cells #[.string ⟨#[]⟩, .slice none 0 0] 65 (0, 0))) (hne : ke ≠ r) (hGe : G ≠ ke) :
    Calls Try.prog 35 #[.pointer (some ⟨r, 0, none⟩), .pointer (some ⟨ke, 0, none⟩)] w fun e w' =>
      (readF bs = none ∧ e = .panicked short ∧ Mod (fun k => k = r) w w') ∨
      (∃ sc l t av, readF bs = some ((sc, l), t) ∧ sc.size ≤ 255 ∧ e = .returned (.tuple #[]) ∧ w'.heap[ke]? = some (.cells #[.string sc, av] 65 (0, 0)) ∧ OwnSl w' 67 7 av l.length (cnds l) ∧
        (∀ b, av.ownBlock = some b → w.heap.size ≤ b) ∧ Rdr w' r G t ∧ Mod (fun k => k = r ∨ k = ke) w w') := by
  have hkl : ke < w.heap.size := (Array.getElem?_eq_some_iff.1 hke).1
  have He := Lib.hid (rd_filter w r G bs h hG)
  have Hke := Lib.hid hke
  have hrl := h.lt
  clear h hke
  go_enter Try.func35, Try.ntmps35
  go_wp2_with fail
  refine He.out.mono ?_
  rintro e w2 (⟨h1, rfl, hm2⟩ | ⟨sc, l, t, av, h1, hsc, rfl, hown, hfresh, hr2, hm2⟩)
  · exact ⟨rfl, .inl ⟨h1, rfl, hm2⟩⟩
  obtain ⟨ava, avc, rfl, -⟩ := hown.shape
  have hk2 := hm2.heap Hke.out hne
  have H1 := Lib.hid h1
  have Hsc := Lib.hid hsc
  have Hown := Lib.hid hown
  have Hfresh := Lib.hid hfresh
  have Hr2 := Lib.hid hr2
  have Hm2 := Lib.hid hm2
  have Hk2 := Lib.hid hk2
  clear h1 hsc hown hfresh hr2 hm2 hk2 He
  go_wp2_with (first | (refine wpList_store_row rfl 65 (.tmp 1) (.tmp 4) rfl ke rfl _ 65 Hk2.out [.string sc, .slice ava l.length avc] rfl 2 rfl rfl (by kernel_rfl) rfl ?_; intro w7 h7 hm7; have H7 := Lib.hid h7; have Hm7 := Lib.hid hm7; clear h7 hm7) | fail)
  refine ⟨rfl, .tuple #[], by simp [results, Try.results35], .inr ⟨sc, l, t, H1.out, Hsc.out, rfl, .slice ava l.length avc, H7.out, ?_, Hfresh.out, ?_, ?_⟩⟩
  · exact Hown.out.mod Hm7.out (fun b hb => by have := Hfresh.out b hb; omega)
  · exact Hr2.out.mod Hm7.out (fun h => hne h.symm) (fun _ => hGe)
  · exact ((Hm2.out.mono (fun _ _ h => .inl h)).on Hm7.out (fun b hb => .inl (.inr hb)))

end Go.Proofs.Ytfpghpicknnfgaa
