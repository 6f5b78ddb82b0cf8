/-
  CodecGives: who gives up has read what was there ahead of that.
-/
import Derived.Test.YtfpghpicknnfgaaFitc
import Derived.Test.YtfpghpicknnfgaaAny
namespace Go.Proofs.Ytfpghpicknnfgaa
open Go.RowKit

theorem and255 (n : Int) : ∃ N : Nat, bits .and .i64 n 255 = (N : Int) ∧ N ≤ 255 := by
  refine ⟨(BitVec.ofInt 64 n &&& BitVec.ofInt 64 255).toNat, ?_, ?_⟩
  · show IntKind.i64.wrap ((BitVec.ofInt 64 n &&& BitVec.ofInt 64 255).toNat : Nat) = _
    have h : (BitVec.ofInt 64 n &&& BitVec.ofInt 64 255).toNat ≤ 255 := by
      rw [BitVec.toNat_and]
      exact Nat.and_le_right
    rw [IntKind.wrap_i64]
    omega
  · rw [BitVec.toNat_and]
    exact Nat.and_le_right

theorem str_at (bs : List UInt8) (j : Nat) (x : UInt8) (h : bs[j]? = some x) (hj : j < (str bs).size) : (str bs)[j] = x := by
  have := (List.getElem?_eq_some_iff.1 h).2
  exact this

set_option maxRecDepth 20000 in
set_option maxHeartbeats 2000000 in
theorem gives1 (w : World) (r G kn kw kk N : Nat) (bs : List UInt8) (h : Rdr w r G bs) (hN : N ≤ 255) (hn : w.heap[kn]? = some (.cells #[.int .i64 N] 3 (0, 0))) (hw : w.heap[kw]? = some (.cells #[.string (str bs)] 9 (0, 0)))
    (hk : w.heap[kk]? = some (.cells #[.int .i64 0] 3 (0, 0))) (_h1 : kn ≠ r) (h2 : kw ≠ r) (h3 : kk ≠ r) (h4 : kk ≠ kn) (h5 : kk ≠ kw) (h6 : G ≠ kk) :
    Calls Try.prog 26 #[.pointer (some ⟨r, 0, none⟩), .pointer (some ⟨kn, 0, none⟩), .pointer (some ⟨kw, 0, none⟩), .pointer (some ⟨kk, 0, none⟩)] w fun e w' =>
      Mod (fun k => k = r ∨ k = kk) w w' ∧ ((bs.length < N ∧ e = .panicked short ∧ w'.heap[kk]? = some (.cells #[.int .i64 bs.length] 3 (0, 0))) ∨
        (N ≤ bs.length ∧ e = .returned (.tuple #[]) ∧ Rdr w' r G (bs.drop N) ∧ w'.heap[kk]? = some (.cells #[.int .i64 N] 3 (0, 0)))) := by
  have cn : w.cell? ⟨kn, 0, none⟩ = some (.int .i64 N) := cell_of hn rfl
  have hN' : (N : Int) ≤ 255 := by omega
  have H := Lib.hid h
  have Hn := Lib.hid hn
  have Hw := Lib.hid hw
  have Hk := Lib.hid hk
  obtain ⟨S, hS⟩ : ∃ S, str bs = S := ⟨_, rfl⟩
  have hSz : S.size = bs.length := by rw [← hS]; exact str_size bs
  have hSat : ∀ j x, bs[j]? = some x → ∀ hj : j < S.size, S[j] = x := fun j x hx hj => by subst hS; exact str_at bs j x hx hj
  rw [hS] at Hw
  have HSat := Lib.hid hSat
  clear h hn hw hk hS hSat
  go_enter Try.func26, Try.ntmps26
  go_wp2_with fail
  go_loopw [7] (fun i wr => ∃ j : Nat, i = .int .i64 j ∧ j ≤ N ∧ j ≤ bs.length ∧ Rdr wr r G (bs.drop j) ∧ Mod (fun k => k = r ∨ k = kk) w wr ∧ wr.heap[kk]? = some (.cells #[.int .i64 j] 3 (0, 0))) (fun i _ => N - (intOf i).toNat)
  case atStart => exact ⟨0, rfl, Nat.zero_le _, Nat.zero_le _, H.out, Mod.refl _ _, Hk.out⟩
  case round =>
    obtain ⟨j, rfl, hjN, hjb, hr, hm, hkk⟩ := hrel
    have Hm := Lib.hid hm
    by_cases hlt : j < N
    · have hlt' : (j : Int) < N := by omega
      have Hb := Lib.hid (rd_byte wr r G _ hr)
      have Hkk := Lib.hid hkk
      clear hr hm hkk
      go_wp2_with fail
      refine Hb.out.mono ?_
      rintro e w2 (⟨h0, rfl, rfl⟩ | ⟨x, t, h0, rfl, hr2, hm2⟩)
      · have hj : j = bs.length := by
          have := List.drop_eq_nil_iff.1 h0
          omega
        subst hj
        exact ⟨rfl, Hm.out, .inl ⟨hlt, rfl, Hkk.out⟩⟩
      have hjl : j < bs.length := by
        have : (bs.drop j).length = (x :: t).length := by rw [h0]
        rw [List.length_drop, List.length_cons] at this
        omega
      have hjS : j < S.size := by omega
      have hjS' : (j : Int) < S.size := by omega
      have hx : bs[j]? = some x := by
        have : (bs.drop j)[0]? = some x := by rw [h0]; rfl
        rwa [List.getElem?_drop, Nat.add_zero] at this
      have hsx := HSat.out j x hx hjS
      have hxl := x.toNat_lt
      have hx1 : (x.toNat : Int) ≤ 255 := by omega
      have hm02 : Mod (fun k => k = r ∨ k = kk) w w2 := Hm.out.trans hm2 (fun _ _ h => .inl h)
      have hkk2 := hm2.heap Hkk.out h3
      have ckk : w2.cell? ⟨kk, 0, none⟩ = some (.int .i64 j) := cell_of hkk2 rfl
      have fkk : w2.frozen? ⟨kk, 0, none⟩ = false := fr_of hkk2
      have ckw : w2.cell? ⟨kw, 0, none⟩ = some (.string S) := cell_of (hm02.heap Hw.out (by omega)) rfl
      have hd : bs.drop (j + 1) = t := by rw [← List.drop_drop, h0]; rfl
      have Hr2 := Lib.hid hr2
      have Hm02 := Lib.hid hm02
      have Hkk2 := Lib.hid hkk2
      have Hd := Lib.hid hd
      clear hm2 hr2 hm02 hkk2 hd hx h0 Hb
      go_wp2_with fail
      go_roundw
      case rel =>
        have hms : Mod (fun k => k = kk) w2 (w2.setCell ⟨kk, 0, none⟩ (.int .i64 ((j : Int) + 1))) := (Mod.refl (fun k => k = kk) w2).setCell (fun _ => rfl) _
        refine ⟨j + 1, by go_num, by omega, by omega, ?_, ?_, ?_⟩
        · rw [Hd.out]
          exact Hr2.out.mod hms (fun h => h3 h.symm) (fun _ => h6)
        · exact Hm02.out.trans hms (fun _ _ h => .inr h)
        · have := heap_set (i := 0) (v := .int .i64 ((j : Int) + 1)) Hkk2.out
          rw [show (((j + 1 : Nat) : Int)) = (j : Int) + 1 by omega]
          exact this
      case measure => simp [intOf]; omega
    · obtain rfl : j = N := by omega
      have Hr := Lib.hid hr
      have Hkk := Lib.hid hkk
      clear hr hm hkk
      go_wp2
      exact ⟨rfl, .tuple #[], by simp [results, Try.results26], Hm.out, .inr ⟨hjb, rfl, Hr.out, Hkk.out⟩⟩

set_option maxRecDepth 20000 in
set_option maxHeartbeats 2000000 in
theorem gives_walk (v : Value) (G : Nat) (bs : List UInt8) (n : Int) (w : World) (hb : BytesAt w G v bs) (hG : G ≤ w.heap.size) (hmx : bs.length ≤ maxLen) :
    Calls Try.prog 5 #[v, .int .i64 n] w fun e w' => e = .returned (.bool true) ∧ Mod (fun _ => False) w w' := by
  obtain ⟨a, c, rfl, hac, ha0, hcells⟩ := hb.ex
  obtain ⟨wa, hwa⟩ : ∃ wa, wa = w.alloc (.cells #[.int .i64 n] 3) := ⟨_, rfl⟩
  have hga : wa.heap[w.heap.size]? = some (.cells #[.int .i64 n] 3 (0, 0)) := hwa ▸ heap_alloc_new w _
  have hma : Mod (fun _ => False) w wa := hwa ▸ (Mod.refl (fun _ => False) w).alloc _
  have hsa : wa.heap.size = w.heap.size + 1 := by rw [hwa]; simp
  have Hf := Lib.hid (fit_at wa)
  have Hb := Lib.hid hb
  have Hga := Lib.hid hga
  have Hma := Lib.hid hma
  have Hwa := Lib.hid hwa
  have hmx' : (bs.length : Int) ≤ 9223372036854775807 := by simp only [maxLen] at hmx; omega
  obtain ⟨N, hand, hN⟩ := and255 n
  have Hand := Lib.hid hand
  clear hb hcells ha0 hmx hga hma hwa hand
  go_enter Try.func5, Try.ntmps5
  go_wp2_with fail
  rw [← Hwa.out]
  refine Hf.out.mono ?_
  rintro e w1 ⟨rfl, hm1⟩
  have hg1 := hm1.heap Hga.out (fun h => h)
  have c1 : w1.cell? ⟨w.heap.size, 0, none⟩ = some (.int .i64 n) := cell_of hg1 rfl
  have f1 : w1.frozen? ⟨w.heap.size, 0, none⟩ = false := fr_of hg1
  have hm01 : Mod (fun _ => False) w w1 := Hma.out.trans hm1 (fun _ _ h => h)
  have hs1 := hm1.size
  have Hg1 := Lib.hid hg1
  have Hm1 := Lib.hid hm01
  clear hg1 hm1 hm01 Hf
  by_cases hbig : bs.length ≤ 200
  rotate_left
  · have hbig' : (200 : Int) < bs.length := by omega
    go_wp2
    go_ret
    exact ⟨rfl, Hm1.out⟩
  have hbig' : (bs.length : Int) ≤ 200 := by omega
  have hand := Hand.out
  have hmS : Mod (fun k => k = w.heap.size) w1 (w1.setCell ⟨w.heap.size, 0, none⟩ (.int .i64 N)) := (Mod.refl (fun k => k = w.heap.size) w1).setCell (fun _ => rfl) _
  have hm02 : Mod (fun _ => False) w (w1.setCell ⟨w.heap.size, 0, none⟩ (.int .i64 N)) := Hm1.out.on hmS (fun b hb => .inr (by omega))
  have hcv := conv_at (Hb.out.mod hm02 (fun _ h => h))
  obtain ⟨wB, hwB⟩ : ∃ wB, wB = ((w1.setCell ⟨w.heap.size, 0, none⟩ (.int .i64 N)).alloc (.cells #[.string (str bs)] 9)).alloc (.cells #[.int .i64 0] 3) := ⟨_, rfl⟩
  have hmB : Mod (fun _ => False) w wB := hwB ▸ (hm02.alloc _).alloc _
  have hsS : (w1.setCell ⟨w.heap.size, 0, none⟩ (.int .i64 N)).heap.size = w1.heap.size := by simp
  have hkn : wB.heap[w.heap.size]? = some (.cells #[.int .i64 N] 3 (0, 0)) := hwB ▸ heap_old (heap_old (heap_set Hg1.out))
  have hkw : wB.heap[w1.heap.size]? = some (.cells #[.string (str bs)] 9 (0, 0)) := by
    have := heap_alloc_new (w1.setCell ⟨w.heap.size, 0, none⟩ (.int .i64 N)) (.cells #[.string (str bs)] 9)
    rw [hsS] at this
    exact hwB ▸ heap_old this
  have hkk : wB.heap[w1.heap.size + 1]? = some (.cells #[.int .i64 0] 3 (0, 0)) := by
    have := heap_alloc2 (w1.setCell ⟨w.heap.size, 0, none⟩ (.int .i64 N)) (.cells #[.string (str bs)] 9) (.cells #[.int .i64 0] 3)
    rw [hsS] at this
    exact hwB ▸ this
  have hsB : wB.heap.size = w1.heap.size + 2 := by rw [hwB]; simp
  have hrd := read_at (.slice a bs.length c) G bs 26 #[.pointer (some ⟨w.heap.size, 0, none⟩), .pointer (some ⟨w1.heap.size, 0, none⟩), .pointer (some ⟨w1.heap.size + 1, 0, none⟩)] wB (Hb.out.mod hmB (fun _ h => h)) (by omega) (fun args w => by simp [go_sem])
    (fun k ok w2 => Mod (fun j => j = w1.heap.size + 1) wB w2 ∧ w2.heap[w1.heap.size + 1]? = some (.cells #[.int .i64 ((min N bs.length : Nat) : Int)] 3 (0, 0)) ∧ ok = decide (N = bs.length))
    (fun r k w2 hm2 hk hr hkr hkl hrd hkh => (gives1 w2 r G w.heap.size w1.heap.size (w1.heap.size + 1) N bs hrd hN (hm2.heap hkn (fun h => h)) (hm2.heap hkw (fun h => h)) (hm2.heap hkk (fun h => h)) (by omega) (by omega) (by omega) (by omega) (by omega) (by omega)).mono fun e w3 h => by
      obtain ⟨hm3, h⟩ := h
      have hmm : Mod (fun j => j = w1.heap.size + 1) wB w3 := (hm2.mono (fun _ _ h => h.elim)).on hm3 (fun b hb => by omega)
      refine ⟨hm3.heap hkh (by omega), ?_⟩
      rcases h with ⟨h1, h2, h3⟩ | ⟨h1, h2, h3, h4⟩
      · exact .inl ⟨h2, hmm, by rw [Nat.min_eq_right (by omega)]; exact h3, (decide_eq_false (by omega)).symm⟩
      · refine .inr ⟨_, h2, h3, hmm, by rw [Nat.min_eq_left h1]; exact h4, ?_⟩
        by_cases hq : N = bs.length
        · rw [decide_eq_true hq, List.drop_of_length_le (by omega)]; rfl
        · rw [decide_eq_false hq]
          cases hdq : bs.drop N with
          | nil => have := List.drop_eq_nil_iff.1 hdq; omega
          | cons x t => rfl)
  have Hrd := Lib.hid hrd
  have HwB := Lib.hid hwB
  have HmB := Lib.hid hmB
  have Hkn := Lib.hid hkn
  have Hkw := Lib.hid hkw
  clear hrd hmB hkn hkw hkk hm02 hmS hwB
  go_wp2_with fail
  rw [← HwB.out]
  refine Hrd.out.mono ?_
  rintro e w3 ⟨ok, w2, k, rfl, ⟨hm2, hk2, rfl⟩, hk, hm3⟩
  have hkk3 := hm3.heap hk2 (by omega)
  have hmB3 : Mod (fun j => j = w1.heap.size + 1) wB w3 := hm2.on hm3 (fun b hb => .inr (by omega))
  have cn : w3.cell? ⟨w.heap.size, 0, none⟩ = some (.int .i64 N) := cell_of (hmB3.heap Hkn.out (by omega)) rfl
  have cw : w3.cell? ⟨w1.heap.size, 0, none⟩ = some (.string (str bs)) := cell_of (hmB3.heap Hkw.out (by omega)) rfl
  have ck : w3.cell? ⟨w1.heap.size + 1, 0, none⟩ = some (.int .i64 ((min N bs.length : Nat) : Int)) := cell_of hkk3 rfl
  have hmw3 : Mod (fun _ => False) w w3 := HmB.out.on hmB3 (fun b hb => .inr (by omega))
  have hcv3 := conv_at (Hb.out.mod hmw3 (fun _ h => h))
  have Hmw3 := Lib.hid hmw3
  clear hmw3 hmB3 hkk3 hm2 hm3 hk2 hcv Hrd
  rcases Nat.lt_trichotomy N bs.length with h | h | h
  · have hb1 : ((N : Int) == (bs.length : Int)) = false := beq_eq_false_iff_ne.2 (by omega)
    have hle : (N : Int) ≤ bs.length := by omega
    rw [Nat.min_eq_left (by omega)] at ck
    rw [decide_eq_false (show ¬ N = bs.length by omega)]
    go_wp2
    go_ret
    exact ⟨rfl, Hmw3.out⟩
  · have hb1 : ((N : Int) == (bs.length : Int)) = true := beq_iff_eq.2 (by omega)
    have hle : (N : Int) ≤ bs.length := by omega
    rw [Nat.min_eq_left (by omega)] at ck
    rw [decide_eq_true h]
    go_wp2
    go_ret
    exact ⟨rfl, Hmw3.out⟩
  · have hb1 : ((N : Int) == (bs.length : Int)) = false := beq_eq_false_iff_ne.2 (by omega)
    have hle : (bs.length : Int) < N := by omega
    rw [Nat.min_eq_right (by omega)] at ck
    rw [decide_eq_false (show ¬ N = bs.length by omega)]
    go_wp2
    go_ret
    exact ⟨rfl, Hmw3.out⟩
end Go.Proofs.Ytfpghpicknnfgaa
