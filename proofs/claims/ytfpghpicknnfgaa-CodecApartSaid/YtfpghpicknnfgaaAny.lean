/-
  CodecAny: any bytes are an event that may be, whose bytes they are, or none.
-/
import Derived.Test.YtfpghpicknnfgaaFitc
import Derived.Test.YtfpghpicknnfgaaBack
namespace Go.Proofs.Ytfpghpicknnfgaa
open Go.RowKit

theorem conv_at {w : World} {G : Nat} {a : Option Addr} {c : Nat} {bs : List UInt8} (h : BytesAt w G (.slice a bs.length c) bs) :
    (convert 22 9 (.slice a bs.length c)).run Try.prog w = .ok (.string (str bs)) w := by
  obtain ⟨a', c', h1, h2, h3, h4⟩ := h.ex
  cases h1
  cases a with
  | none =>
    have := h3 rfl
    obtain rfl : bs = [] := List.eq_nil_of_length_eq_zero (by omega)
    exact conv_nil
  | some b =>
    obtain ⟨off, rfl, -, h5⟩ := h4 b rfl
    exact conv_bytes rfl h5
theorem conv_rd {w : World} {v : Value} {bs : List UInt8} (h : RdSl w 1 v bs.length (u8s bs)) : (convert 22 9 v).run Try.prog w = .ok (.string (str bs)) w := by
  obtain ⟨h1, a, c, rfl, h2, h3, h4⟩ := h
  cases a with
  | none =>
    have := h3 rfl
    obtain rfl : bs = [] := List.eq_nil_of_length_eq_zero (by omega)
    exact conv_nil
  | some b =>
    obtain ⟨g, off, rfl, h5⟩ := h4 b rfl
    exact conv_bytes rfl (fun j u hu => h5 j _ (by simp [u8s, hu]))

set_option maxRecDepth 20000 in
set_option maxHeartbeats 2000000 in
theorem any_walk (v : Value) (G : Nat) (bs : List UInt8) (w : World) (hb : BytesAt w G v bs) (hG : G ≤ w.heap.size) (hmx : bs.length ≤ maxLen) :
    Calls Try.prog 3 #[v] w fun e w' => e = .returned (.bool true) ∧ Mod (fun _ => False) w w' := by
  obtain ⟨a, c, rfl, hac, ha0, hcells⟩ := hb.ex
  have Hf := Lib.hid (fit_at w)
  have Hb := Lib.hid hb
  have Hcells := Lib.hid hcells
  have Ha0 := Lib.hid ha0
  have hmx' : (bs.length : Int) ≤ 9223372036854775807 := by simp only [maxLen] at hmx; omega
  clear hb hcells ha0 hmx
  go_enter Try.func3, Try.ntmps3
  go_wp2_with fail
  refine Hf.out.mono ?_
  rintro e w1 ⟨rfl, hm1⟩
  have hr := read_event _ G bs w1 (Hb.out.mod hm1 (fun _ h => h)) (Nat.le_trans hG hm1.size)
  have Hr := Lib.hid hr
  have Hm1 := Lib.hid hm1
  clear hr hm1 Hf
  by_cases hbig : bs.length ≤ 1500
  rotate_left
  · have hbig' : (1500 : Int) < bs.length := by omega
    go_wp2
    go_ret
    exact ⟨rfl, Hm1.out⟩
  have hbig' : (bs.length : Int) ≤ 1500 := by omega
  go_wp2_with fail
  refine Hr.out.mono ?_
  rintro e w2 ⟨sc, l, av, ok, rfl, hown, hfresh, hsc, hm2, hcase⟩
  obtain ⟨ava, avc, rfl, -⟩ := hown.shape
  have Hown := Lib.hid hown
  have Hm2 := Lib.hid (Hm1.out.trans hm2 (fun _ _ h => h))
  have Hsc := Lib.hid hsc
  clear hown hm2 hfresh hsc Hr
  rcases hcase with ⟨rfl, hre⟩ | ⟨rfl, -, rfl, rfl⟩
  rotate_left
  · go_wp2_with (first | (refine wpList_store_new rfl 26 (.tmp 3) (.tmp 13) rfl rfl _ 26 [.string ⟨#[]⟩, .slice ava ([] : List Att).length avc] rfl rfl (by kernel_rfl) (fun u hu => List.all_eq_true.1 rfl u hu) ?_) | fail)
    go_ret
    exact ⟨rfl, Hm2.out.alloc _⟩
  obtain ⟨hback, hright, hll, hfit⟩ := readE_back hre
  obtain ⟨wz, hwz⟩ : ∃ wz, w2.alloc (.cells #[.string sc, .slice ava l.length avc] 26) = wz := ⟨_, rfl⟩
  have hgz : wz.heap[w2.heap.size]? = some (.cells #[.string sc, .slice ava l.length avc] 26 (0, 0)) := hwz ▸ heap_alloc_new w2 _
  have hmz : Mod (fun _ => False) w2 wz := hwz ▸ (Mod.refl (fun _ => False) w2).alloc _
  have Hback := Lib.hid hback
  have Hright := Lib.hid hright
  have Hll := Lib.hid hll
  have Hfit := Lib.hid hfit
  have Hwz := Lib.hid hwz
  have Hgz := Lib.hid hgz
  have Hmz := Lib.hid hmz
  clear hre hback hright hll hfit hwz hgz hmz
  go_wp2_with (first | (refine wpList_store_new rfl 26 (.tmp 3) (.tmp 13) rfl rfl _ 26 [.string sc, .slice ava l.length avc] rfl rfl (by kernel_rfl) (fun u hu => List.all_eq_true.1 rfl u hu) ?_; rw [show w2.alloc (.cells ([.string sc, .slice ava l.length avc] : List Value).toArray 26) = wz from Hwz.out]) | fail)
  have hS : (fun y : World => y.heap[w2.heap.size]? = some (.cells #[.string sc, .slice ava l.length avc] 26 (0, 0)) ∧ BytesAt y G (.slice a bs.length c) bs) wz.drew :=
    ⟨Hgz.out, Hb.out.mod ((Hm2.out.trans Hmz.out (fun _ _ h => h)).drew) (fun _ h => h)⟩
  refine wp_region_script [.rd 0, .go 1, .go 2, .rd 3, .rd 6, .rd 7, .go 4, .go 5, .go 8, .go 9, .go 10] [0, 1, 2, 3, 4, 5, 6, 7] (fun y : World => y.heap[w2.heap.size]? = some (.cells #[.string sc, .slice ava l.length avc] 26 (0, 0)) ∧ BytesAt y G (.slice a bs.length c) bs) (by kernel_rfl) (by kernel_rfl) (fun _ _ d _ _ h => (by cases d <;> exact h)) ?_
  refine walk_rd rfl ?_ (fun _ => hS) ?_ (fun w0 h0 => ?_) (fun K hK => ?_)
  · try simp only [List.getElem_toArray, List.getElem_cons_zero]
    go_simp; done
  rotate_left
  · try simp only [List.getElem_toArray, List.getElem_cons_zero]
    obtain ⟨h1, -⟩ := h0 rfl; have f0 := cell_of (j := 0) h1 rfl; have f1 := cell_of (j := 1) h1 rfl; clear h0 h1
    go_simp; with_reducible rfl
  try simp only [List.getElem_toArray, List.getElem_cons_zero]
  go_simp; refine hK _ ?_; clear hK K
  refine walk_one (go_yes rfl ?_ (fun K hK => ?_))
  · go_simp; done
  have hrt := right_at sc (.slice ava l.length avc) l wz.drew ((Hown.out.mod (Hmz.out.drew) (fun _ _ h => h)).rd) (by have := Hll.out; omega) (fun x hx => by have := (Hfit.out x hx).1; omega)
  rw [Hright.out] at hrt
  go_wp2_with fail
  refine hrt.mono ?_
  rintro e w3 ⟨rfl, hm3⟩
  have hS3 : (fun y : World => y.heap[w2.heap.size]? = some (.cells #[.string sc, .slice ava l.length avc] 26 (0, 0)) ∧ BytesAt y G (.slice a bs.length c) bs) w3 := ⟨hm3.heap hS.1 (fun h => h), hS.2.mod hm3 (fun _ h => h)⟩
  refine hK _ _ (fun _ _ => hS3) ?_
  clear hK K hrt
  have hwz3 : Mod (fun _ => False) w2 w3 := (Hmz.out.drew).trans hm3 (fun _ _ h => h)
  have Hwz3 := Lib.hid hwz3
  clear hm3 hS hwz3
  have hS := hS3
  refine walk_one (go_yes rfl ?_ (fun K hK => ?_))
  · try simp only [List.getElem_toArray, List.getElem_cons_succ, List.getElem_cons_zero]
    go_simp; done
  try simp only [List.getElem_toArray, List.getElem_cons_succ, List.getElem_cons_zero]
  go_simp
  refine hK _ _ (fun _ h => h) ?_
  clear hK K
  refine walk_rd rfl ?_ (fun _ => hS) ?_ (fun w0 h0 => ?_) (fun K hK => ?_)
  · try simp only [List.getElem_toArray, List.getElem_cons_succ, List.getElem_cons_zero]
    go_simp; done
  rotate_left
  · try simp only [List.getElem_toArray, List.getElem_cons_succ, List.getElem_cons_zero]
    obtain ⟨h1, -⟩ := h0 rfl; have f0 := cell_of (j := 0) h1 rfl; have f1 := cell_of (j := 1) h1 rfl; clear h0 h1
    go_simp; with_reducible rfl
  try simp only [List.getElem_toArray, List.getElem_cons_succ, List.getElem_cons_zero]
  go_simp; refine hK _ ?_; clear hK K
  refine walk_rd rfl ?_ (fun _ => hS) ?_ (fun w0 h0 => ?_) (fun K hK => ?_)
  · try simp only [List.getElem_toArray, List.getElem_cons_succ, List.getElem_cons_zero]
    go_simp; done
  rotate_left
  · try simp only [List.getElem_toArray, List.getElem_cons_succ, List.getElem_cons_zero]
    clear h0
    go_simp; with_reducible rfl
  try simp only [List.getElem_toArray, List.getElem_cons_succ, List.getElem_cons_zero]
  go_simp; refine hK _ ?_; clear hK K
  refine walk_rd rfl ?_ (fun _ => hS) ?_ (fun w0 h0 => ?_) (fun K hK => ?_)
  · try simp only [List.getElem_toArray, List.getElem_cons_succ, List.getElem_cons_zero]
    go_simp; done
  rotate_left
  · try simp only [List.getElem_toArray, List.getElem_cons_succ, List.getElem_cons_zero]
    obtain ⟨-, h1⟩ := h0 rfl; have hcv := conv_at h1; clear h0 h1
    go_simp; with_reducible rfl
  try simp only [List.getElem_toArray, List.getElem_cons_succ, List.getElem_cons_zero]
  go_simp; refine hK _ ?_; clear hK K
  refine walk_one (go_yes rfl ?_ (fun K hK => ?_))
  · try simp only [List.getElem_toArray, List.getElem_cons_succ, List.getElem_cons_zero]
    go_simp; done
  try simp only [List.getElem_toArray, List.getElem_cons_succ, List.getElem_cons_zero]
  have hev := ev_bytes w3 sc (by have := Hsc.out; omega) (.slice ava l.length avc) l ((Hown.out.mod Hwz3.out (fun _ _ h => h)).rd) (fun b hb => (Hown.out.mod Hwz3.out (fun _ _ h => h)).lt b hb) Hll.out Hfit.out
  rw [Hback.out] at hev
  go_wp2_with fail
  refine hev.mono ?_
  rintro e w4 ⟨v4, rfl, hown4, -, hm4⟩
  have hS4 : (fun y : World => y.heap[w2.heap.size]? = some (.cells #[.string sc, .slice ava l.length avc] 26 (0, 0)) ∧ BytesAt y G (.slice a bs.length c) bs) w4 := ⟨hm4.heap hS.1 (fun h => h), hS.2.mod hm4 (fun _ h => h)⟩
  refine hK _ _ (fun _ _ => hS4) ?_
  clear hK K hev
  have hcv4 := conv_rd hown4.rd
  have Hm4 := Lib.hid (Hwz3.out.trans hm4 (fun _ _ h => h))
  clear hown4 hm4 hS hS3 hS4
  refine walk_one (go_yes rfl ?_ (fun K hK => ?_))
  · try simp only [List.getElem_toArray, List.getElem_cons_succ, List.getElem_cons_zero]
    go_simp; done
  try simp only [List.getElem_toArray, List.getElem_cons_succ, List.getElem_cons_zero]
  go_simp
  refine hK _ _ (fun _ h => h) ?_
  clear hK K
  refine walk_one (go_yes rfl ?_ (fun K hK => ?_))
  · try simp only [List.getElem_toArray, List.getElem_cons_succ, List.getElem_cons_zero]
    go_simp; done
  try simp only [List.getElem_toArray, List.getElem_cons_succ, List.getElem_cons_zero]
  go_simp
  refine hK _ _ (fun h => absurd h (by decide)) ?_
  clear hK K
  refine walk_one (go_yes rfl ?_ (fun K hK => ?_))
  · try simp only [List.getElem_toArray, List.getElem_cons_succ, List.getElem_cons_zero]
    go_simp; done
  try simp only [List.getElem_toArray, List.getElem_cons_succ, List.getElem_cons_zero]
  go_simp
  refine hK _ _ (fun h => absurd h (by decide)) ?_
  clear hK K
  refine walk_one (go_yes rfl ?_ (fun K hK => ?_))
  · try simp only [List.getElem_toArray, List.getElem_cons_succ, List.getElem_cons_zero]
    go_simp; done
  try simp only [List.getElem_toArray, List.getElem_cons_succ, List.getElem_cons_zero]
  go_simp
  refine hK _ _ (fun h => absurd h (by decide)) ?_
  clear hK K
  refine walk_nil ?_
  go_wp2
  go_ret
  exact ⟨rfl, Hm2.out.trans Hm4.out (fun _ _ h => h)⟩
end Go.Proofs.Ytfpghpicknnfgaa
