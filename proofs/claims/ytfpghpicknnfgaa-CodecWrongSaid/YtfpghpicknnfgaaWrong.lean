/-
  CodecWrong: values of kinds that are none, keys of no number, and others than yes and no make bytes none.
-/
import Derived.Test.YtfpghpicknnfgaaWrongp
import Derived.Test.YtfpghpicknnfgaaAppmk
import Derived.Test.YtfpghpicknnfgaaFitc
import Derived.Test.YtfpghpicknnfgaaReadsc
namespace Go.Proofs.Ytfpghpicknnfgaa
open Go.RowKit

theorem OwnSl.fresh (w : World) (bs : List UInt8) (h : bs.length ≤ maxLen) : OwnSl (w.alloc (.cells (u8s bs).toArray 5)) 5 1 (.slice (some ⟨w.heap.size, 0, none⟩) bs.length bs.length) bs.length (u8s bs) :=
  ⟨by simp [u8s], .inr ⟨w.heap.size, 0, bs.length, _, rfl, heap_alloc_new w _, Nat.le_refl _, h, by simp [u8s], (by simp [u8s]; exact List.take_of_length_le (by simp))⟩⟩

/-- Bytes of our own, made since w0. -/
structure Own (w0 w : World) (v : Value) (bs : List UInt8) : Prop where
  own : OwnSl w 5 1 v bs.length (u8s bs)
  new : ∀ b, v.ownBlock = some b → w0.heap.size ≤ b
  mod : Mod (fun _ => False) w0 w
theorem Own.app {w0 w al w' : World} {v : Value} {bs cs : List UInt8} (h : Own w0 w v bs) (hal : Mod (fun _ => False) w al) {n : Nat} {ad : Option Addr} {cap : Nat} (hn : n = (bs ++ cs).length)
    (hA : Appended al 5 1 v n (u8s bs ++ u8s cs) (.slice ad n cap) w') : Own w0 w' (.slice ad n cap) (bs ++ cs) := by
  subst hn
  have hap : u8s bs ++ u8s cs = u8s (bs ++ cs) := by simp [u8s]
  rw [hap] at hA
  have hs := h.mod.size
  have hs' := hal.size
  refine ⟨hA.1, fun b hb => ?_, (h.mod.trans hal (fun _ _ h => h)).trans hA.2.1 (fun b hb hk => by have := h.new b hk; omega)⟩
  rcases hA.2.2 with h1 | ⟨q, h1, hq⟩
  · exact h.new b (h1.symm.trans hb)
  · have : some q = some b := h1.symm.trans hb
    cases this
    omega

theorem read_yes (v : Value) (bs : List UInt8) (w : World) (hown : OwnSl w 5 1 v bs.length (u8s bs)) (hne : bs ≠ []) (yes : Bool) (hy : (∃ p, readE bs = some (p, [])) ↔ yes = true) :
    Calls Try.prog 12 #[v] w fun e w' => ∃ sc a n c, e = .returned (.tuple #[.agg #[.string sc, .slice a n c], .bool yes]) ∧ Mod (fun _ => False) w w' := by
  obtain ⟨G, -, hb, hG⟩ := own_bytes hown hne
  refine (read_event v G bs w hb (Nat.le_of_lt hG)).mono ?_
  rintro e w' ⟨sc, l, av, ok, rfl, hown', -, -, hm, hcase⟩
  obtain ⟨a, c, rfl, -⟩ := hown'.shape
  refine ⟨sc, a, l.length, c, ?_, hm⟩
  have : ok = yes := by
    rcases hcase with ⟨rfl, h⟩ | ⟨rfl, h, -⟩
    · exact (hy.1 ⟨_, h⟩).symm
    · cases yes with
      | false => rfl
      | true => obtain ⟨p, hp⟩ := hy.2 rfl; exact absurd hp (h p)
  rw [this]

set_option maxRecDepth 20000 in
set_option maxHeartbeats 4000000 in
theorem wrong_walk (a n : UInt8) (K : Nat) (hK : K < 2 ^ 64) (w : World) :
    Calls Try.prog 6 #[.int .u8 (a.toNat : Int), .int .u8 (n.toNat : Int), .int .u64 (K : Nat)] w fun e w' => e = .returned (.bool true) ∧ Mod (fun _ => False) w w' := by
  have Hf := Lib.hid (fit_at w)
  have hal := a.toNat_lt
  have hnl := n.toNat_lt
  have ha' : (a.toNat : Int) ≤ 255 := by omega
  have hn' : (n.toNat : Int) ≤ 255 := by omega
  go_enter Try.func6, Try.ntmps6
  go_wp2_with fail
  refine Hf.out.mono ?_
  rintro e w1 ⟨rfl, hm1⟩
  obtain ⟨w2, hw2⟩ : ∃ w2, w2 = w1.alloc (.cells #[.int .u8 0, .int .u8 1, .int .u8 1, .int .u8 97, .int .u8 (a.toNat : Int)] 5) := ⟨_, rfl⟩
  have ho2 : Own w w2 (.slice (some ⟨w1.heap.size, 0, none⟩) 5 5) [0, 1, 1, 97, a] := by
    refine ⟨?_, fun b hb => ?_, hw2 ▸ hm1.alloc _⟩
    · rw [hw2]
      exact OwnSl.fresh w1 [0, 1, 1, 97, a] (by simp [maxLen])
    · have : some w1.heap.size = some b := hb
      cases this
      exact hm1.size
  have Ho2 := Lib.hid ho2
  have Hw2 := Lib.hid hw2
  clear hm1 ho2 hw2 Hf
  rcases (by omega : a.toNat = 0 ∨ a.toNat = 1 ∨ a.toNat = 2 ∨ a.toNat = 3 ∨ 4 ≤ a.toNat) with h | h | h | h | h
  · have Hh := Lib.hid h
    rw [h] at Hw2 ⊢
    have hw2' : w1.alloc (.cells #[.int .u8 0, .int .u8 1, .int .u8 1, .int .u8 97, .int .u8 0] 5) = w2 := Hw2.out.symm
    go_wp2_with fail
    go_loopw [7, 8] (fun b i wr => ∃ k : Nat, k ≤ 8 ∧ i = .int .i64 (56 - 8 * k) ∧ Own w wr b ([0, 1, 1, 97, a] ++ (longBytes K).take k)) (fun _ i _ => (intOf i + 8).toNat)
    case atStart => exact ⟨0, by omega, rfl, by simpa using Ho2.out⟩
    case round =>
      obtain ⟨k, hk, rfl, ho⟩ := hrel
      obtain ⟨va, vc, hv, -⟩ := ho.own.shape
      subst hv
      by_cases hlt : k < 8
      · have h1 : (0 : Int) ≤ 56 - 8 * k := by omega
        obtain ⟨ws, hws⟩ : ∃ ws, [0, 1, 1, 97, a] ++ (longBytes K).take k = ws := ⟨_, rfl⟩
        have hwl : ws.length ≤ 13 := by rw [← hws, List.length_append, List.length_take, longBytes_length]; simp; omega
        rw [hws] at ho ⊢
        have hbt : u8s [byteOf ((K / 256 ^ (7 - k) : Nat) : Int)] = [.int .u8 ((K : Int) / 2 ^ (56 - 8 * k) % 256)] := by
          have h2 := byte_at K k hlt
          rw [IntKind.wrap_u8, show (56 - 8 * (k : Int)).toNat = 56 - 8 * k by omega] at h2
          rw [h2]
          simp [u8s]
        have Hws := Lib.hid hws
        have Hwl := Lib.hid hwl
        have Ho := Lib.hid ho
        have Hbt := Lib.hid hbt
        clear hws hwl ho hbt
        go_wp2_with (first | (refine wpList_append_sl rfl (.tmp 31) (.tmp 36) 22 rfl 5 1 1 bytes_T (.slice va ws.length vc) ws.length (u8s ws) rfl (Ho.out.own.alloc _) _ 1 (u8s [byteOf ((K / 256 ^ (7 - k) : Nat) : Int)]) rfl (by rw [Hbt.out]; exact RdSl.one _ _ _ rfl) (u8s_one _) (by have := Hwl.out; omega) (by have := Hwl.out; unfold maxLen; omega) ?_; intro ad cap w5 hA; have HAp := Lib.hid hA; clear hA) | fail)
        go_roundw
        case rel =>
          refine ⟨k + 1, hlt, by go_num, ?_⟩
          have hq := Ho.out.app ((Mod.refl (fun _ => False) wr).alloc _) (by simp) HAp.out
          rw [longBytes_take K k hlt, ← List.append_assoc, Hws.out]
          exact hq
        case measure => simp [intOf]; omega
      · obtain rfl : k = 8 := by omega
        rw [List.take_of_length_le (by rw [longBytes_length]; exact Nat.le_refl _)] at ho ⊢
        have Hrd := Lib.hid (read_yes _ _ wr ho.own (by simp) true ((one_iff (a :: longBytes K)).trans ⟨fun _ => rfl, fun _ => one_int a K Hh.out⟩))
        have Ho := Lib.hid ho
        clear ho
        go_wp2_with fail
        refine Hrd.out.mono ?_
        rintro e w6 ⟨sc, a6, n6, c6, rfl, hm6⟩
        have Hm6 := Lib.hid (Ho.out.mod.trans hm6 (fun _ _ h => h))
        clear hm6 Hrd
        go_wp2
        go_ret
        exact ⟨rfl, Hm6.out.alloc _⟩
  · have Hh := Lib.hid h
    have hbk := back_at K hK
    obtain ⟨⟨x, ok⟩, hp⟩ : ∃ p, backB K = p := ⟨_, rfl⟩
    rw [hp] at hbk
    have Hbk := Lib.hid hbk
    have HP := Lib.hid hp
    clear hbk hp
    rw [h] at Hw2 ⊢
    have hw2' : w1.alloc (.cells #[.int .u8 0, .int .u8 1, .int .u8 1, .int .u8 97, .int .u8 1] 5) = w2 := Hw2.out.symm
    go_wp2_with fail
    go_loopw [7, 8] (fun b i wr => ∃ k : Nat, k ≤ 8 ∧ i = .int .i64 (56 - 8 * k) ∧ Own w wr b ([0, 1, 1, 97, a] ++ (longBytes K).take k)) (fun _ i _ => (intOf i + 8).toNat)
    case atStart => exact ⟨0, by omega, rfl, by simpa using Ho2.out⟩
    case round =>
      obtain ⟨k, hk, rfl, ho⟩ := hrel
      obtain ⟨va, vc, hv, -⟩ := ho.own.shape
      subst hv
      by_cases hlt : k < 8
      · have h1 : (0 : Int) ≤ 56 - 8 * k := by omega
        obtain ⟨ws, hws⟩ : ∃ ws, [0, 1, 1, 97, a] ++ (longBytes K).take k = ws := ⟨_, rfl⟩
        have hwl : ws.length ≤ 13 := by rw [← hws, List.length_append, List.length_take, longBytes_length]; simp; omega
        rw [hws] at ho ⊢
        have hbt : u8s [byteOf ((K / 256 ^ (7 - k) : Nat) : Int)] = [.int .u8 ((K : Int) / 2 ^ (56 - 8 * k) % 256)] := by
          have h2 := byte_at K k hlt
          rw [IntKind.wrap_u8, show (56 - 8 * (k : Int)).toNat = 56 - 8 * k by omega] at h2
          rw [h2]
          simp [u8s]
        have Hws := Lib.hid hws
        have Hwl := Lib.hid hwl
        have Ho := Lib.hid ho
        have Hbt := Lib.hid hbt
        clear hws hwl ho hbt
        go_wp2_with (first | (refine wpList_append_sl rfl (.tmp 31) (.tmp 36) 22 rfl 5 1 1 bytes_T (.slice va ws.length vc) ws.length (u8s ws) rfl (Ho.out.own.alloc _) _ 1 (u8s [byteOf ((K / 256 ^ (7 - k) : Nat) : Int)]) rfl (by rw [Hbt.out]; exact RdSl.one _ _ _ rfl) (u8s_one _) (by have := Hwl.out; omega) (by have := Hwl.out; unfold maxLen; omega) ?_; intro ad cap w5 hA; have HAp := Lib.hid hA; clear hA) | fail)
        go_roundw
        case rel =>
          refine ⟨k + 1, hlt, by go_num, ?_⟩
          have hq := Ho.out.app ((Mod.refl (fun _ => False) wr).alloc _) (by simp) HAp.out
          rw [longBytes_take K k hlt, ← List.append_assoc, Hws.out]
          exact hq
        case measure => simp [intOf]; omega
      · obtain rfl : k = 8 := by omega
        rw [List.take_of_length_le (by rw [longBytes_length]; exact Nat.le_refl _)] at ho ⊢
        have Hrd := Lib.hid (read_yes _ _ wr ho.own (by simp) ok ((one_iff (a :: longBytes K)).trans (by rw [one_num a K hK Hh.out, HP.out])))
        have Ho := Lib.hid ho
        clear ho
        go_wp2_with fail
        refine Hrd.out.mono ?_
        rintro e w6 ⟨sc, a6, n6, c6, rfl, hm6⟩
        have Hm6 := Lib.hid (Ho.out.mod.trans hm6 (fun _ _ h => h))
        clear hm6 Hrd
        go_wp2_with fail
        refine (Hbk.out _).mono ?_
        rintro e w7 ⟨rfl, rfl⟩
        go_wp2
        go_ret
        exact ⟨rfl, Hm6.out.alloc _⟩
  · have Hh := Lib.hid h
    rw [h] at Hw2 ⊢
    have hw2' : w1.alloc (.cells #[.int .u8 0, .int .u8 1, .int .u8 1, .int .u8 97, .int .u8 2] 5) = w2 := Hw2.out.symm
    obtain ⟨m, hm⟩ : ∃ m, n.toNat = m := ⟨_, rfl⟩
    rw [hm] at hn' ⊢
    have hcase : ∃ yes : Bool, (n.toNat ≤ 40 ↔ yes = true) ∧ decide ((m : Int) ≤ 40) = yes := by
      by_cases hq : n.toNat ≤ 40
      · exact ⟨true, by simp [hq], decide_eq_true (by omega)⟩
      · exact ⟨false, by simp [hq], decide_eq_false (by omega)⟩
    obtain ⟨yes, hyes, hdec⟩ := hcase
    have Hyes := Lib.hid hyes
    have Hm := Lib.hid hm
    have hm255 : m ≤ 255 := by omega
    clear hm hyes
    go_wp2_with (first | (refine wpList_append_sl rfl (.tmp 41) (.tmp 43) 22 rfl 5 1 1 bytes_T (.slice (some ⟨w1.heap.size, 0, none⟩) 5 5) 5 (u8s [0, 1, 1, 97, a]) rfl (Ho2.out.own.alloc _) _ 1 (u8s [n]) rfl (by rw [show u8s [n] = [.int .u8 (m : Int)] by rw [← Hm.out]; rfl]; exact RdSl.one _ _ _ rfl) (u8s_one _) (by omega) (by unfold maxLen; omega) ?_; intro ad cap w5 hA; have HAp := Lib.hid hA; clear hA) | (refine wpList_append_make rfl (.tmp 45) (.tmp 46) rfl (.slice ad 6 cap) 6 (u8s [0, 1, 1, 97, a] ++ u8s [n]) rfl HAp.out.1 m rfl hm255 (by omega) (by omega) (by unfold maxLen; omega) ?_; intro ad2 cap2 w6 hA; have HAp2 := Lib.hid hA; clear hA) | fail)
    have ho3 := Ho2.out.app ((Mod.refl (fun _ => False) w2).alloc _) rfl HAp.out
    have hA2 : Appended w5 5 1 (.slice ad 6 cap) (6 + m) (u8s ([0, 1, 1, 97, a] ++ [n]) ++ u8s (List.replicate m 0)) (.slice ad2 (6 + m) cap2) w6 := HAp2.out
    have ho4 := ho3.app (Mod.refl (fun _ => False) w5) (by rw [List.length_append, List.length_replicate]; rfl) hA2
    have hy : (∃ p, readE (([0, 1, 1, 97, a] ++ [n]) ++ List.replicate m 0) = some (p, [])) ↔ yes = true := by
      refine (one_iff (a :: n :: List.replicate m 0)).trans ?_
      rw [← Hm.out]
      exact (one_text a n Hh.out).trans Hyes.out
    have hrd := read_yes _ _ w6 ho4.own (by simp) yes hy
    have Hrd := Lib.hid hrd
    have Ho4 := Lib.hid ho4
    clear ho3 hA2 ho4 hy hrd
    go_wp2_with fail
    refine Hrd.out.mono ?_
    rintro e w7 ⟨sc, a6, n6, c6, rfl, hm6⟩
    have Hm6 := Lib.hid (Ho4.out.mod.trans hm6 (fun _ _ h => h))
    clear hm6 Hrd
    go_wp2
    go_ret
    exact ⟨rfl, Hm6.out.alloc _⟩
  · have Hh := Lib.hid h
    rw [h] at Hw2 ⊢
    have hw2' : w1.alloc (.cells #[.int .u8 0, .int .u8 1, .int .u8 1, .int .u8 97, .int .u8 3] 5) = w2 := Hw2.out.symm
    obtain ⟨m, hm⟩ : ∃ m, n.toNat = m := ⟨_, rfl⟩
    rw [hm] at hn' ⊢
    have hcase : ∃ yes : Bool, (n.toNat ≤ 1 ↔ yes = true) ∧ decide ((m : Int) ≤ 1) = yes := by
      by_cases hq : n.toNat ≤ 1
      · exact ⟨true, by simp [hq], decide_eq_true (by omega)⟩
      · exact ⟨false, by simp [hq], decide_eq_false (by omega)⟩
    obtain ⟨yes, hyes, hdec⟩ := hcase
    have Hyes := Lib.hid hyes
    have Hm := Lib.hid hm
    clear hm hyes
    go_wp2_with (first | (refine wpList_append_sl rfl (.tmp 16) (.tmp 18) 22 rfl 5 1 1 bytes_T (.slice (some ⟨w1.heap.size, 0, none⟩) 5 5) 5 (u8s [0, 1, 1, 97, a]) rfl (Ho2.out.own.alloc _) _ 1 (u8s [n]) rfl (by rw [show u8s [n] = [.int .u8 (m : Int)] by rw [← Hm.out]; rfl]; exact RdSl.one _ _ _ rfl) (u8s_one _) (by omega) (by unfold maxLen; omega) ?_; intro ad cap w5 hA; have HAp := Lib.hid hA; clear hA) | fail)
    have ho4 := Ho2.out.app ((Mod.refl (fun _ => False) w2).alloc _) rfl HAp.out
    have Hrd := Lib.hid (read_yes _ _ w5 ho4.own (by simp) yes ((one_iff [a, n]).trans ((one_bool a n Hh.out).trans Hyes.out)))
    have Ho4 := Lib.hid ho4
    clear ho4
    go_wp2_with fail
    refine Hrd.out.mono ?_
    rintro e w7 ⟨sc, a6, n6, c6, rfl, hm6⟩
    have Hm6 := Lib.hid (Ho4.out.mod.trans hm6 (fun _ _ h => h))
    clear hm6 Hrd
    go_wp2
    go_ret
    exact ⟨rfl, Hm6.out.alloc _⟩
  · have Hh := Lib.hid h
    obtain ⟨m, hm⟩ : ∃ m, n.toNat = m := ⟨_, rfl⟩
    rw [hm] at hn' ⊢
    have Hm := Lib.hid hm
    obtain ⟨an, han⟩ : ∃ an, a.toNat = an := ⟨_, rfl⟩
    rw [han] at Hw2 h ⊢
    have hw2' : w1.alloc (.cells #[.int .u8 0, .int .u8 1, .int .u8 1, .int .u8 97, .int .u8 (an : Int)] 5) = w2 := Hw2.out.symm
    have b0 : ((an : Int) == 0) = false := beq_eq_false_iff_ne.2 (by omega)
    have b1 : ((an : Int) == 1) = false := beq_eq_false_iff_ne.2 (by omega)
    have b2 : ((an : Int) == 2) = false := beq_eq_false_iff_ne.2 (by omega)
    have b3 : ((an : Int) == 3) = false := beq_eq_false_iff_ne.2 (by omega)
    clear hm han ha' hal
    go_wp2_with (first | (refine wpList_append_sl rfl (.tmp 16) (.tmp 18) 22 rfl 5 1 1 bytes_T (.slice (some ⟨w1.heap.size, 0, none⟩) 5 5) 5 (u8s [0, 1, 1, 97, a]) rfl (Ho2.out.own.alloc _) _ 1 (u8s [n]) rfl (by rw [show u8s [n] = [.int .u8 (m : Int)] by rw [← Hm.out]; rfl]; exact RdSl.one _ _ _ rfl) (u8s_one _) (by omega) (by unfold maxLen; omega) ?_; intro ad cap w5 hA; have HAp := Lib.hid hA; clear hA) | fail)
    have ho4 := Ho2.out.app ((Mod.refl (fun _ => False) w2).alloc _) rfl HAp.out
    have Hrd := Lib.hid (read_yes _ _ w5 ho4.own (by simp) false ((one_iff [a, n]).trans ⟨fun h => absurd h (one_other a n Hh.out), fun h => by cases h⟩))
    have Ho4 := Lib.hid ho4
    clear ho4
    go_wp2_with fail
    refine Hrd.out.mono ?_
    rintro e w7 ⟨sc, a6, n6, c6, rfl, hm6⟩
    have Hm6 := Lib.hid (Ho4.out.mod.trans hm6 (fun _ _ h => h))
    clear hm6 Hrd
    go_wp2
    go_ret
    exact ⟨rfl, Hm6.out.alloc _⟩
end Go.Proofs.Ytfpghpicknnfgaa
