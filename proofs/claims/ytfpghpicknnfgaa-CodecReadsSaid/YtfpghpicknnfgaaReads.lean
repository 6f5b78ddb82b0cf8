/-
  CodecReads: numbers and texts come back in order.
-/
import Derived.Test.YtfpghpicknnfgaaReadsc
import Derived.Test.YtfpghpicknnfgaaAny
namespace Go.Proofs.Ytfpghpicknnfgaa
open Go.RowKit

theorem and3 (n : Int) : ∃ N : Nat, bits .and .i64 n 3 = (N : Int) ∧ N ≤ 3 := by
  refine ⟨(BitVec.ofInt 64 n &&& BitVec.ofInt 64 3).toNat, ?_, ?_⟩
  · show IntKind.i64.wrap ((BitVec.ofInt 64 n &&& BitVec.ofInt 64 3).toNat : Nat) = _
    have h : (BitVec.ofInt 64 n &&& BitVec.ofInt 64 3).toNat ≤ 3 := by
      rw [BitVec.toNat_and]
      exact Nat.and_le_right
    rw [IntKind.wrap_i64]
    omega
  · rw [BitVec.toNat_and]
    exact Nat.and_le_right

theorem Nums.same {w w' : World} {v : Value} {xs : List Nat} (h : Nums w v xs) (hm : Mod (fun _ => False) w w') : Nums w' v xs := by
  obtain ⟨a, cap, h1, h2, h3⟩ := h
  exact ⟨a, cap, h1, h2, fun b hb j x hx => ⟨hm.cell (h3 b hb j x hx).1 (fun h => h), (h3 b hb j x hx).2⟩⟩
theorem Nums.lt {w : World} {v : Value} {xs : List Nat} (h : Nums w v xs) : ∀ x ∈ xs, x < 2 ^ 64 := by
  obtain ⟨a, cap, -, h2, h3⟩ := h
  intro x hx
  obtain ⟨j, hj⟩ := List.mem_iff_getElem?.1 hx
  cases a with
  | none => rw [h2 rfl] at hx; cases hx
  | some b => exact (h3 b rfl j x hj).2

set_option maxRecDepth 20000 in
set_option maxHeartbeats 4000000 in
theorem reads_walk (v : Value) (xs : List Nat) (s : ByteArray) (n : Int) (w : World) (hv : Nums w v xs) (hvl : ∀ b, v.ownBlock = some b → b < w.heap.size) (hxl : xs.length ≤ maxLen) (hsl : s.size ≤ maxLen) :
    Calls Try.prog 4 #[v, .string s, .int .i64 n] w fun e w' => e = .returned (.bool true) ∧ Mod (fun _ => False) w w' := by
  have hv0 := hv
  obtain ⟨a, cap, rfl, ha, hc⟩ := hv0
  obtain ⟨wa, hwa⟩ : ∃ wa, wa = ((w.alloc (.cells #[.slice a xs.length cap] 32)).alloc (.cells #[.string s] 9)).alloc (.cells #[.int .i64 n] 3) := ⟨_, rfl⟩
  have hma : Mod (fun _ => False) w wa := hwa ▸ (((Mod.refl (fun _ => False) w).alloc _).alloc _).alloc _
  have hg0 : wa.heap[w.heap.size]? = some (.cells #[.slice a xs.length cap] 32 (0, 0)) := hwa ▸ heap_old (heap_old (heap_alloc_new w _))
  have hg1 : wa.heap[w.heap.size + 1]? = some (.cells #[.string s] 9 (0, 0)) := hwa ▸ heap_old (heap_alloc2 w _ _)
  have hg2 : wa.heap[w.heap.size + 1 + 1]? = some (.cells #[.int .i64 n] 3 (0, 0)) := by
    have := heap_alloc2 (w.alloc (.cells #[.slice a xs.length cap] 32)) (.cells #[.string s] 9) (.cells #[.int .i64 n] 3)
    rw [show (w.alloc (.cells #[.slice a xs.length cap] 32)).heap.size + 1 = w.heap.size + 1 + 1 by simp] at this
    exact hwa ▸ this
  have hsa : wa.heap.size = w.heap.size + 3 := by rw [hwa]; simp
  obtain ⟨M, hand, hM⟩ := and3 n
  have Hf := Lib.hid (fit_at wa)
  have Hv := Lib.hid hv
  have Hvl := Lib.hid hvl
  have Ha := Lib.hid ha
  have Hc := Lib.hid hc
  have Hma := Lib.hid hma
  have Hg0 := Lib.hid hg0
  have Hg1 := Lib.hid hg1
  have Hg2 := Lib.hid hg2
  have Hwa := Lib.hid hwa
  have hxl' : (xs.length : Int) ≤ 9223372036854775807 := by simp only [maxLen] at hxl; omega
  have hsl' : (s.size : Int) ≤ 9223372036854775807 := by simp only [maxLen] at hsl; omega
  clear hv hvl ha hc hma hg0 hg1 hg2 hwa hxl hsl
  go_enter Try.func4, Try.ntmps4
  go_wp2_with fail
  rw [← Hwa.out]
  refine Hf.out.mono ?_
  rintro e w1 ⟨rfl, hm1⟩
  have hh0 := hm1.heap Hg0.out (fun h => h)
  have hh1 := hm1.heap Hg1.out (fun h => h)
  have hh2 := hm1.heap Hg2.out (fun h => h)
  have c0 : w1.cell? ⟨w.heap.size, 0, none⟩ = some (.slice a xs.length cap) := cell_of hh0 rfl
  have c1 : w1.cell? ⟨w.heap.size + 1, 0, none⟩ = some (.string s) := cell_of hh1 rfl
  have c2 : w1.cell? ⟨w.heap.size + 1 + 1, 0, none⟩ = some (.int .i64 n) := cell_of hh2 rfl
  have f2 : w1.frozen? ⟨w.heap.size + 1 + 1, 0, none⟩ = false := fr_of hh2
  have hm01 : Mod (fun _ => False) w w1 := Hma.out.trans hm1 (fun _ _ h => h)
  have hs1 := hm1.size
  have Hh0 := Lib.hid hh0
  have Hh1 := Lib.hid hh1
  have Hh2 := Lib.hid hh2
  have Hm1 := Lib.hid hm01
  clear hh0 hh1 hh2 hm1 hm01 Hf
  by_cases hbx : xs.length ≤ 30
  rotate_left
  · have hbx' : (30 : Int) < xs.length := by omega
    go_wp2
    go_ret
    exact ⟨rfl, Hm1.out⟩
  have hbx' : (xs.length : Int) ≤ 30 := by omega
  have hbx'' : decide ((30 : Int) < xs.length) = false := decide_eq_false (by omega)
  by_cases hbs : s.size ≤ 255
  rotate_left
  · have hbs' : (255 : Int) < s.size := by omega
    go_wp2
    go_ret
    exact ⟨rfl, Hm1.out⟩
  have hbs' : (s.size : Int) ≤ 255 := by omega
  have hbs'' : decide ((255 : Int) < s.size) = false := decide_eq_false (by omega)
  obtain ⟨wB, hwB⟩ : ∃ wB, wB = (w1.setCell ⟨w.heap.size + 1 + 1, 0, none⟩ (.int .i64 M)).alloc (.cells #[.slice none 0 0] 34) := ⟨_, rfl⟩
  have hmS : Mod (fun k => k = w.heap.size + 1 + 1) w1 (w1.setCell ⟨w.heap.size + 1 + 1, 0, none⟩ (.int .i64 M)) := (Mod.refl (fun k => k = w.heap.size + 1 + 1) w1).setCell (fun _ => rfl) _
  have hsS : (w1.setCell ⟨w.heap.size + 1 + 1, 0, none⟩ (.int .i64 M)).heap.size = w1.heap.size := by simp
  have hmB1 : Mod (fun k => k = w.heap.size + 1 + 1) w1 wB := hwB ▸ hmS.alloc _
  have hmB : Mod (fun _ => False) w wB := Hm1.out.on hmB1 (fun b hb => .inr (by omega))
  have hb0 := hmB1.heap Hh0.out (by omega)
  have hb1 := hmB1.heap Hh1.out (by omega)
  have hb2 : wB.heap[w.heap.size + 1 + 1]? = some (.cells #[.int .i64 M] 3 (0, 0)) := hwB ▸ heap_old (heap_set Hh2.out)
  have hbp : wB.heap[w1.heap.size]? = some (.cells #[.slice none 0 0] 34 (0, 0)) := by
    have := heap_alloc_new (w1.setCell ⟨w.heap.size + 1 + 1, 0, none⟩ (.int .i64 M)) (.cells #[.slice none 0 0] 34)
    rw [hsS] at this
    exact hwB ▸ this
  have hwt : Wtr wB w1.heap.size (.slice none 0 0) [] := ⟨hbp, OwnSl.nil _ _ _⟩
  have hsB : wB.heap.size = w1.heap.size + 1 := by rw [hwB]; simp
  have d0 : wB.cell? ⟨w.heap.size, 0, none⟩ = some (.slice a xs.length cap) := cell_of hb0 rfl
  have Hb0 := Lib.hid hb0
  have Hb1 := Lib.hid hb1
  have Hb2 := Lib.hid hb2
  have Hwt := Lib.hid hwt
  have HmB := Lib.hid hmB
  have HwB := Lib.hid hwB
  have e1 : w.heap.size < w1.heap.size := by omega
  have e2 : (w1.setCell ⟨w.heap.size + 1 + 1, 0, none⟩ (.int .i64 M)).cell? ⟨w.heap.size, 0, none⟩ = some (.slice a xs.length cap) := hmS.cell c0 (by simp; omega)
  clear hb0 hb1 hb2 hbp hwt hmB hmB1 hmS hwB
  go_wp2_with fail
  rw [← HwB.out]
  clear c0 c1 c2 f2 e1 e2 d0
  go_loopw [28] (fun i wr => ∃ j : Nat, ∃ v', i = .int .i64 j ∧ j ≤ xs.length ∧ Wtr wr w1.heap.size v' (numBytes 0 (xs.take j)) ∧ Wrote wB w1.heap.size (.slice none 0 0) wr v') (fun i _ => xs.length - (intOf i).toNat)
  case atStart => exact ⟨0, _, rfl, Nat.zero_le _, Hwt.out, Wrote.refl _ _ _⟩
  case round =>
    obtain ⟨j, v1, rfl, hj, hw1, hwr1⟩ := hrel
    have hmw : Mod (fun _ => False) w wr := HmB.out.on hwr1.mod (fun b hb => by
      rcases hb with hb | hb
      · exact .inr (by omega)
      · cases hb)
    have Hw1 := Lib.hid hw1
    have Hwr1 := Lib.hid hwr1
    have Hmw := Lib.hid hmw
    clear hw1 hwr1 hmw
    by_cases hlt : j < xs.length
    · have hlt' : (j : Int) < xs.length := by omega
      obtain ⟨x, hxj⟩ : ∃ x, xs[j]? = some x := ⟨_, List.getElem?_eq_getElem hlt⟩
      obtain ⟨b, hab⟩ : ∃ b, a = some b := by
        cases a with
        | none => have := Ha.out rfl; subst this; simp at hlt
        | some b => exact ⟨b, rfl⟩
      subst hab
      obtain ⟨hcx, hxl⟩ := Hc.out b rfl j x hxj
      have cx : wr.cell? (b.add j) = some (.int .u64 (x : Nat)) := Hmw.out.cell hcx (fun h => h)
      have hnl : (numBytes 0 (xs.take j)).length ≤ 300 := by rw [numBytes_length, List.length_take]; omega
      have Hlg := Lib.hid (wr_long wr w1.heap.size v1 _ Hw1.out (by omega) x hxl)
      go_wp2_with fail
      refine Hlg.out.mono ?_
      rintro e w2 ⟨rfl, v2, hw2, hwr2⟩
      have hal : Mod (fun _ => False) w2 (w2.alloc (.cells #[.int .i64 j] 3)) := (Mod.refl _ w2).alloc _
      have Hby := Lib.hid (wr_byte _ w1.heap.size v2 _ (hw2.same hal) (by rw [List.length_append, longBytes_length]; omega) j w2.heap.size (cell_of (heap_alloc_new w2 _) rfl))
      have Hwr2 := Lib.hid (Hwr1.out.trans hwr2)
      have Hal := Lib.hid hal
      clear hw2 hwr2 hal Hlg
      go_wp2_with fail
      refine Hby.out.mono ?_
      rintro e w3 ⟨rfl, v3, hw3, hwr3⟩
      have Hwr3 := Lib.hid (Hwr2.out.trans (Wrote.after Hal.out hwr3))
      have hnb : numBytes 0 (xs.take (j + 1)) = (numBytes 0 (xs.take j) ++ longBytes x) ++ [byteOf j] := by
        rw [List.take_add_one, hxj]
        show numBytes 0 (xs.take j ++ [x]) = _
        rw [numBytes_snoc, List.append_assoc]
        congr 3
        rw [List.length_take]
        have : 0 + min j xs.length = j := by omega
        rw [this]
      rw [← hnb] at hw3
      have Hw3 := Lib.hid hw3
      clear hw3 hwr3 hnb Hby
      go_wp2
      go_roundw
      case rel => exact ⟨j + 1, v3, by go_num, hlt, Hw3.out, Hwr3.out⟩
      case measure => simp [intOf]; omega
    · obtain rfl : j = xs.length := by omega
      have hw1 := Hw1.out
      rw [List.take_length] at hw1
      have hnl : (numBytes 0 xs).length ≤ 300 := by rw [numBytes_length]; omega
      have Htx := Lib.hid (wr_text wr w1.heap.size v1 _ hw1 (by omega) s (by omega))
      have cs : wr.cell? ⟨w.heap.size + 1, 0, none⟩ = some (.string s) := cell_of (Hwr1.out.mod.heap Hb1.out (fun hb => by
        rcases hb with hb | hb
        · omega
        · cases hb)) rfl
      clear hw1
      go_wp2_with fail
      refine Htx.out.mono ?_
      rintro e w4 ⟨rfl, v4, hw4, hwr4⟩
      have hwrB := Hwr1.out.trans hwr4
      obtain ⟨TB, hTB⟩ : ∃ TB, numBytes 0 xs ++ byteOf s.size :: txt s = TB := ⟨_, rfl⟩
      have hTBl : TB.length ≤ 600 := by rw [← hTB, List.length_append, List.length_cons, txt_length]; omega
      have hTBn : TB ≠ [] := by rw [← hTB]; simp
      rw [hTB] at hw4
      have hs4 := hwrB.mod.size
      obtain ⟨w5, hw5⟩ : ∃ w5, w5 = (w4.alloc (.cells #[.bool true] 4)).alloc (.cells #[.bool false] 4) := ⟨_, rfl⟩
      have Hblt := Lib.hid hw4.blt
      have hm45 : Mod (fun _ => False) w4 w5 := hw5 ▸ ((Mod.refl (fun _ => False) w4).alloc _).alloc _
      have hkg : w5.heap[w4.heap.size]? = some (.cells #[.bool true] 4 (0, 0)) := hw5 ▸ heap_old (heap_alloc_new w4 _)
      have hke : w5.heap[w4.heap.size + 1]? = some (.cells #[.bool false] 4 (0, 0)) := hw5 ▸ heap_alloc2 w4 _ _
      have hs5 : w5.heap.size = w4.heap.size + 2 := by rw [hw5]; simp
      have hw5t := hw4.same hm45
      have Hby := Lib.hid (wr_bytes w5 w1.heap.size v4 _ hw5t (by omega))
      have HTB := Lib.hid hTB
      have HTBl := Lib.hid hTBl
      have HTBn := Lib.hid hTBn
      have Hkg := Lib.hid hkg
      have Hke := Lib.hid hke
      have Hw5t := Lib.hid hw5t
      have HwrB := Lib.hid hwrB
      have Hm45 := Lib.hid hm45
      have Hw5 := Lib.hid hw5
      clear hTB hTBl hTBn hkg hke hw5t hwrB hm45 hw4 hwr4 Htx hw5
      go_wp2_with fail
      rw [← Hw5.out]
      refine Hby.out.mono ?_
      rintro e w6 ⟨v6, rfl, hown6, hfr6, hm6⟩
      obtain ⟨G6, hG6, hb6, hGl6⟩ := own_bytes hown6 HTBn.out
      have hGf := hfr6 G6 hG6
      have hbox : ∀ k (o : Obj), wB.heap[k]? = some o → k ≠ w1.heap.size → w6.heap[k]? = some o := fun k o hk hne =>
        hm6.heap (Hm45.out.heap (HwrB.out.mod.heap hk (fun hb => by
          rcases hb with hb | hb
          · exact hne hb
          · cases hb)) (fun h => h)) (fun h => h)
      have hmw6 : Mod (fun _ => False) w w6 := ((HmB.out.on HwrB.out.mod (fun b hb => by
        rcases hb with hb | hb
        · exact .inr (by omega)
        · cases hb)).trans Hm45.out (fun _ _ h => h)).trans hm6 (fun _ _ h => h)
      have h6l := hbox _ _ Hb0.out (by omega)
      have h6s := hbox _ _ Hb1.out (by omega)
      have h6m := hbox _ _ Hb2.out (by omega)
      have h6g := hm6.heap Hkg.out (fun h => h)
      have h6e := hm6.heap Hke.out (fun h => h)
      have hs6 := hm6.size
      have hr1 := read_at v6 G6 TB 20 #[.pointer (some ⟨w.heap.size, 0, none⟩), .pointer (some ⟨w4.heap.size, 0, none⟩), .pointer (some ⟨w.heap.size + 1, 0, none⟩), .pointer (some ⟨w.heap.size + 1 + 1, 0, none⟩), .pointer (some ⟨w4.heap.size + 1, 0, none⟩)] w6 hb6 hGl6 (fun args w => by simp [go_sem])
        (fun k ok w2 => Mod (fun j => j = w4.heap.size ∨ j = w4.heap.size + 1) w6 w2 ∧ w2.heap[w4.heap.size]? = some (.cells #[.bool true] 4 (0, 0)) ∧ w2.heap[w4.heap.size + 1]? = some (.cells #[.bool (decide (M = 0))] 4 (0, 0)) ∧ ok = decide (M = 0))
        (fun r k w2 hm2 hk hr hkr hkl hrd hkh => (reads1 w2 r G6 w.heap.size w4.heap.size (w.heap.size + 1) (w.heap.size + 1 + 1) (w4.heap.size + 1) (.slice a xs.length cap) xs s M (by rw [HTB.out]; exact hrd) hbs hbx hM (Hv.out.same (hmw6.trans hm2 (fun _ _ h => h))) (fun b hb => by have := Hvl.out b hb; omega)
          (hm2.heap h6l (fun h => h)) (hm2.heap h6g (fun h => h)) (hm2.heap h6s (fun h => h)) (hm2.heap h6m (fun h => h)) (hm2.heap h6e (fun h => h)) (by omega) (by omega) (by omega) (by omega) (by omega) (by omega) (by omega) (by omega) (by omega)).mono fun e w3 h => by
          obtain ⟨hm3, hg3, h⟩ := h
          have hmm : Mod (fun j => j = w4.heap.size ∨ j = w4.heap.size + 1) w6 w3 := (hm2.mono (fun _ _ h => h.elim)).on hm3 (fun b hb => by omega)
          refine ⟨hm3.heap hkh (by omega), ?_⟩
          rcases h with ⟨h1, h2, h3⟩ | ⟨h1, h2, h3, h4⟩
          · exact .inl ⟨h2, hmm, hg3, by rw [decide_eq_false h1]; exact h3, (decide_eq_false h1).symm⟩
          · exact .inr ⟨[], h2, h3, hmm, hg3, by rw [decide_eq_true h1]; exact h4, (decide_eq_true h1).symm⟩)
      have Hr1 := Lib.hid hr1
      have Hmw6 := Lib.hid hmw6
      have H6l := Lib.hid h6l
      have H6m := Lib.hid h6m
      have Hw6t := Lib.hid (Hw5t.out.same hm6)
      clear hr1 hmw6 h6l h6m h6s h6g h6e hbox hb6 hown6 hfr6 hm6 hG6 Hby
      go_wp2_with fail
      refine Hr1.out.mono ?_
      rintro e w7 ⟨ok, w7', k7, rfl, ⟨hm7, hg7, he7, rfl⟩, hk7, hm7'⟩
      have hmm7 : Mod (fun j => j = w4.heap.size ∨ j = w4.heap.size + 1) w6 w7 := hm7.on hm7' (fun b hb => .inr (by omega))
      have hg7' := hm7'.heap hg7 (by omega)
      have he7' := hm7'.heap he7 (by omega)
      have hw7t := Hw6t.out.mod hmm7 (by omega) (fun k hk => by have := Hblt.out k hk; omega)
      have hmw7 : Mod (fun _ => False) w w7 := Hmw6.out.on hmm7 (fun b hb => .inr (by omega))
      have h7l := hmm7.heap H6l.out (by omega)
      have h7m := hmm7.heap H6m.out (by omega)
      have hs7 := hmm7.size
      have Hby7 := Lib.hid (wr_bytes w7 w1.heap.size v4 _ hw7t (by have := HTBl.out; omega))
      have Hg7 := Lib.hid hg7'
      have He7 := Lib.hid he7'
      have Hmw7 := Lib.hid hmw7
      have H7l := Lib.hid h7l
      have H7m := Lib.hid h7m
      clear hm7 hg7 he7 hm7' hmm7 hg7' he7' hw7t hmw7 h7l h7m Hr1
      go_wp2_with fail
      refine Hby7.out.mono ?_
      rintro e w8 ⟨v8, rfl, hown8, hfr8, hm8⟩
      obtain ⟨va8, vc8, hv8, -⟩ := hown8.shape
      subst hv8
      have Hown8 := Lib.hid hown8
      have Hfr8 := Lib.hid hfr8
      have Hm8 := Lib.hid hm8
      clear hown8 hfr8 hm8 Hby7
      go_wp2_with (first | (refine wpList_append_sl rfl (.tmp 44) (.tmp 45) 22 rfl 5 1 1 bytes_T (.slice va8 TB.length vc8) TB.length (u8s TB) rfl (Hown8.out.alloc _) _ 1 (u8s [7]) rfl (RdSl.one w8 (u8s [7]) 5 rfl) (u8s_one [7]) (by have := HTBl.out; omega) (by have := HTBl.out; unfold maxLen; omega) ?_; intro ad cap9 w9 hA; have HAp := Lib.hid hA; clear hA) | fail)
      have hA := HAp.out
      have hap : u8s TB ++ u8s [7] = u8s (TB ++ [7]) := by simp [u8s]
      rw [hap] at hA
      have hown9 : OwnSl w9 5 1 (.slice ad (TB.length + 1) cap9) (TB ++ [7]).length (u8s (TB ++ [7])) := by
        rw [List.length_append]; exact hA.1
      obtain ⟨G9, hG9, hb9, hGl9⟩ := own_bytes hown9 (by simp)
      have hs8 := Hm8.out.size
      have hm89 : Mod (fun _ => False) w7 w9 := (Hm8.out.alloc (.cells (u8s [7]).toArray 5)).trans hA.2.1 (fun b hb hk => by have := Hfr8.out b hk; omega)
      have h9l := hm89.heap H7l.out (fun h => h)
      have h9m := hm89.heap H7m.out (fun h => h)
      have h9g := hm89.heap Hg7.out (fun h => h)
      have h9e := hm89.heap He7.out (fun h => h)
      have hmw9 : Mod (fun _ => False) w w9 := Hmw7.out.trans hm89 (fun _ _ h => h)
      have hs9 := hm89.size
      have hr2 := read_at (.slice ad (TB.length + 1) cap9) G9 (TB ++ [7]) 24 #[.pointer (some ⟨w.heap.size, 0, none⟩)] w9 hb9 hGl9 (fun args w => by simp [go_sem])
        (fun k ok w2 => Mod (fun _ => False) w9 w2 ∧ ok = false)
        (fun r k w2 hm2 hk hr hkr hkl hrd hkh => (reads2 w2 r G9 w.heap.size (.slice a xs.length cap) xs s [7] (by rw [HTB.out]; exact hrd) hbs hbx Hv.out.lt ⟨a, cap, rfl⟩ (hm2.heap h9l (fun h => h))).mono fun e w3 h => by
          obtain ⟨h1, h2, h3⟩ := h
          exact ⟨h3.heap hkh hkr, .inr ⟨[7], h1, h2, hm2.on h3 (fun b hb => .inr (by omega)), rfl⟩⟩)
      have Hr2 := Lib.hid hr2
      have Hmw9 := Lib.hid hmw9
      have H9m := Lib.hid h9m
      have H9g := Lib.hid h9g
      have H9e := Lib.hid h9e
      clear hA hap hown9 hG9 hb9 hm89 h9l h9m h9g h9e hmw9 hr2
      go_wp2_with fail
      refine Hr2.out.mono ?_
      rintro e wa1 ⟨ok, wa0, k9, rfl, ⟨hma0, rfl⟩, hk9, hma1⟩
      have hmm : Mod (fun _ => False) w9 wa1 := hma0.on hma1 (fun b hb => .inr (by omega))
      have hmwa : Mod (fun _ => False) w wa1 := Hmw9.out.trans hmm (fun _ _ h => h)
      have km : wa1.cell? ⟨w.heap.size + 1 + 1, 0, none⟩ = some (.int .i64 M) := cell_of (hmm.heap H9m.out (fun h => h)) rfl
      have kg : wa1.cell? ⟨w4.heap.size, 0, none⟩ = some (.bool true) := cell_of (hmm.heap H9g.out (fun h => h)) rfl
      have ke : wa1.cell? ⟨w4.heap.size + 1, 0, none⟩ = some (.bool (decide (M = 0))) := cell_of (hmm.heap H9e.out (fun h => h)) rfl
      have hr3 := read_at (.slice none 0 0) 0 [] 25 #[] wa1 ⟨none, 0, rfl, Nat.le_refl _, fun _ => rfl, fun b hb => (by cases hb)⟩ (by have := hmwa.size; have := hmm.size; omega) (fun args w => by simp [go_sem])
        (fun k ok w2 => Mod (fun _ => False) wa1 w2 ∧ ok = true)
        (fun r k w2 hm2 hk hr hkr hkl hrd hkh => (reads3 w2 r).mono fun e w3 h => by
          obtain ⟨h1, rfl⟩ := h
          exact ⟨hkh, .inr ⟨[], h1, hrd, hm2, rfl⟩⟩)
      have Hr3 := Lib.hid hr3
      have Hmwa := Lib.hid hmwa
      clear hr3 hmwa hmm hma0 hma1 Hr2
      rcases Nat.eq_zero_or_pos M with hM0 | hM0
      · subst hM0
        go_wp2_with fail
        refine Hr3.out.mono ?_
        rintro e wz ⟨ok, wz0, kz, rfl, ⟨hmz0, rfl⟩, hkz, hmz⟩
        have hmz1 : Mod (fun _ => False) wa1 wz := hmz0.on hmz (fun b hb => .inr (by omega))
        go_wp2
        go_ret
        exact ⟨rfl, Hmwa.out.trans hmz1 (fun _ _ h => h)⟩
      · have hq : ((M : Int) == 0) = false := beq_eq_false_iff_ne.2 (by omega)
        rw [decide_eq_false (show ¬ M = 0 by omega)] at ke ⊢
        go_wp2_with fail
        refine Hr3.out.mono ?_
        rintro e wz ⟨ok, wz0, kz, rfl, ⟨hmz0, rfl⟩, hkz, hmz⟩
        have hmz1 : Mod (fun _ => False) wa1 wz := hmz0.on hmz (fun b hb => .inr (by omega))
        go_wp2
        go_ret
        exact ⟨rfl, Hmwa.out.trans hmz1 (fun _ _ h => h)⟩
end Go.Proofs.Ytfpghpicknnfgaa
