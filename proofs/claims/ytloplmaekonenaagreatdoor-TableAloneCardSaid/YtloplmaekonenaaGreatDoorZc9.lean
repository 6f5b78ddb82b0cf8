/-
  strconv's fmtEFG: no digit ahead of the point. (Printed by gen_efga.py.)
-/
import Derived.Test.YtloplmaekonenaaGreatDoorZc8
import Derived.BigGuardPart
namespace Go.Proofs.YtloplmaekonenaaGreatDoor
set_option maxRecDepth 20000
open Go.RowKit

def sgnT (neg : Bool) : List UInt8 := if neg then [45] else []
def zeros (n : Nat) : List UInt8 := List.replicate n 48
theorem zeros_succ (l : List UInt8) (j : Nat) : l ++ zeros j ++ [48] = l ++ zeros (j + 1) := by
  unfold zeros
  rw [List.append_assoc, List.replicate_succ']
theorem take_more (l d : List UInt8) (j : Nat) (u : UInt8) (h : d[j]? = some u) : l ++ d.take j ++ [u] = l ++ d.take (j + 1) := by
  obtain ⟨hk, hx⟩ := List.getElem?_eq_some_iff.1 h
  rw [List.append_assoc, List.take_succ_eq_append_getElem hk, hx]

set_option maxHeartbeats 40000000 in
theorem fmta_at (F : Nat → Prop) (w : World) (v : Value) (g : Nat) (neg : Bool) (ds : List UInt8) (z : Nat) (hb : Buf F w w v []) (hd : Digs w g ds) (hg : ¬ F g) (h0 : 0 < ds.length) (h32 : ds.length ≤ 32) (hz : z ≤ 3) :
    Calls Tryz.prog 229 #[v, .bool neg, .slice (some ⟨g, 0, none⟩) 32 32, .int .i64 (-(z : Int)), .int .i64 ds.length, .int .i64 ds.length, .int .u8 103, .bool true] w fun x w' => ∃ v', x = .returned v' ∧ Buf F w w' v' (sgnT neg ++ [48, 46] ++ zeros z ++ ds) := by
  obtain ⟨ad, cap, rfl, -⟩ := hb.own.shape
  obtain ⟨n, hn⟩ : ∃ n, ds.length = n := ⟨_, rfl⟩
  rw [hn] at h0 h32 ⊢
  have hmx : max ((n : Int) + z) 0 = n + z := by omega
  have h4 : ¬ (-(z : Int) - 1 < -4) := by omega
  have h4d : decide (-(z : Int) - 1 < -4) = false := decide_eq_false h4
  have h6 : -(z : Int) - 1 < 6 := by omega
  have hpn : -(z : Int) < n := by omega
  have hz0 : -(z : Int) ≤ 0 := by omega
  have hmx2 : max 0 (z : Int) = z := by omega
  have hmn2 : min ((n : Int) + z) z = z := by omega
  have hmx3 : max 0 (n : Int) = n := by omega
  have hzz : -(z : Int) + z = 0 := by omega
  have hnn : (n : Int) + z - z = n := by omega
  have hn0 : (n : Int) - 0 = n := by omega
  have hnx : (n : Int) - n = 0 := by omega
  have Hb := Lib.hid hb
  have Hd := Lib.hid hd
  have Hg := Lib.hid hg
  have Hn := Lib.hid hn
  clear hb hd hg hn
  cases neg
  · go_enter Tryz.func229, Tryz.ntmps229
    go_wp2_with (first | ((with_reducible refine wpList_put (.tmp 209) ?_); refine ⟨rfl, F, w, _, _, [48], Hb.out, by first | rfl | (go_simp; done), rfl, by decide, by decide, by first | decide | (have h := Hln.out; exact h), rfl, rfl, fun ad1 cap1 w1 hb1 => ?_⟩; have Hb1 := Lib.hid hb1; clear hb1) | ((with_reducible refine wpList_put (.tmp 214) ?_); refine ⟨rfl, F, w, _, _, [46], Hb1.out, by first | rfl | (go_simp; done), rfl, by decide, by decide, by first | decide | (have h := Hln.out; exact h), rfl, rfl, fun ad2 cap2 w2 hb2 => ?_⟩; have Hb2 := Lib.hid hb2; clear hb2) | fail)
    go_loopw [0, 240] (fun tv i wr => ∃ j : Nat, i = .int .i64 j ∧ j ≤ z ∧ Buf F w wr tv (([48, 46] : List UInt8) ++ zeros j)) (fun _ i _ => z - (intOf i).toNat)
    case atStart => exact ⟨0, rfl, Nat.zero_le _, Hb2.out⟩
    case round =>
      obtain ⟨j, rfl, hj, hbr⟩ := hrel
      obtain ⟨adr, capr, hv, -⟩ := hbr.own.shape
      subst hv
      have hln : (([48, 46] : List UInt8) ++ zeros j).length ≤ 1000000 := by simp [zeros]; omega
      by_cases hlt : j < z
      · have hlt' : (j : Int) < z := by omega
        have Hbr := Lib.hid hbr
        have Hln := Lib.hid hln
        clear hbr hln
        go_wp2_with (first | ((with_reducible refine wpList_put (.tmp 242) ?_); refine ⟨rfl, F, w, _, _, [48], Hbr.out, by first | rfl | (go_simp; done), rfl, by decide, by decide, by first | decide | (have h := Hln.out; exact h), rfl, rfl, fun ad3 cap3 w3 hb3 => ?_⟩; have Hb3 := Lib.hid hb3; clear hb3) | fail)
        go_roundw
        case rel => exact ⟨j + 1, by go_num, hlt, by have h := Hb3.out; rw [zeros_succ] at h; simpa using h⟩
        case measure => simp [intOf]; omega
      · have hjz : z = j := by omega
        subst hjz
        have Hbr := Lib.hid hbr
        have Hln := Lib.hid hln
        clear hbr hln
        go_wp2_with fail
        go_loopw [0, 247] (fun tv i wr => ∃ j : Nat, i = .int .i64 j ∧ j ≤ n ∧ Buf F w wr tv (([48, 46] : List UInt8) ++ zeros z ++ ds.take j)) (fun _ i _ => n - (intOf i).toNat)
        case atStart => exact ⟨0, rfl, Nat.zero_le _, by rw [List.take_zero, List.append_nil]; exact Hbr.out⟩
        case round =>
          clear Hln
          obtain ⟨j, rfl, hj2, hbs⟩ := hrel
          obtain ⟨ads, caps, hv, -⟩ := hbs.own.shape
          subst hv
          have hln : (([48, 46] : List UInt8) ++ zeros z ++ ds.take j).length ≤ 1000000 := by simp [zeros]; omega
          by_cases hlt2 : j < n
          · have hlt' : (j : Int) < n := by omega
            have hj32 : (j : Int) < 32 := by omega
            obtain ⟨u, hu⟩ : ∃ u, ds[j]? = some u := ⟨_, List.getElem?_eq_getElem (by have := Hn.out; omega)⟩
            have c0 := hbs.digs Hd.out Hg.out j u hu
            unfold encU at c0
            have Hbs := Lib.hid hbs
            have Hln := Lib.hid hln
            have Hu := Lib.hid hu
            clear hbs hln hu
            go_wp2_with (first | ((with_reducible refine wpList_put (.tmp 250) ?_); refine ⟨rfl, F, w, _, _, [u], Hbs.out, by first | rfl | (go_simp; done), rfl, by decide, by decide, by first | decide | (have h := Hln.out; exact h), rfl, rfl, fun ad3 cap3 w3 hb3 => ?_⟩; have Hb3 := Lib.hid hb3; clear hb3) | fail)
            go_roundw
            case rel => exact ⟨j + 1, by go_num, hlt2, by have h := Hb3.out; rw [take_more _ ds j u Hu.out] at h; simpa using h⟩
            case measure => simp [intOf]; omega
          · have hjn : n = j := by omega
            subst hjn
            have Hbs := Lib.hid hbs
            have Hln := Lib.hid hln
            clear hbs hln
            go_wp2_with fail
            go_loopw [0, 261] (fun tv i wr => i = .int .i64 0 ∧ Buf F w wr tv (([48, 46] : List UInt8) ++ zeros z ++ ds)) (fun _ _ _ => 0)
            case atStart => exact ⟨rfl, by simpa [List.take_of_length_le (Nat.le_of_eq Hn.out)] using Hbs.out⟩
            case round =>
              obtain ⟨rfl, hbt⟩ := hrel
              have Hbt := Lib.hid hbt
              clear hbt
              go_wp2_with fail
              go_ret
              exact ⟨_, rfl, Hbt.out⟩
  · go_enter Tryz.func229, Tryz.ntmps229
    go_wp2_with (first | ((with_reducible refine wpList_put (.tmp 179) ?_); refine ⟨rfl, F, w, _, _, [45], Hb.out, by first | rfl | (go_simp; done), rfl, by decide, by decide, by first | decide | (have h := Hln.out; exact h), rfl, rfl, fun ad0 cap0 w0 hb0 => ?_⟩; have Hb0 := Lib.hid hb0; clear hb0) | ((with_reducible refine wpList_put (.tmp 209) ?_); refine ⟨rfl, F, w, _, _, [48], Hb0.out, by first | rfl | (go_simp; done), rfl, by decide, by decide, by first | decide | (have h := Hln.out; exact h), rfl, rfl, fun ad1 cap1 w1 hb1 => ?_⟩; have Hb1 := Lib.hid hb1; clear hb1) | ((with_reducible refine wpList_put (.tmp 214) ?_); refine ⟨rfl, F, w, _, _, [46], Hb1.out, by first | rfl | (go_simp; done), rfl, by decide, by decide, by first | decide | (have h := Hln.out; exact h), rfl, rfl, fun ad2 cap2 w2 hb2 => ?_⟩; have Hb2 := Lib.hid hb2; clear hb2) | fail)
    go_loopw [0, 240] (fun tv i wr => ∃ j : Nat, i = .int .i64 j ∧ j ≤ z ∧ Buf F w wr tv (([45, 48, 46] : List UInt8) ++ zeros j)) (fun _ i _ => z - (intOf i).toNat)
    case atStart => exact ⟨0, rfl, Nat.zero_le _, Hb2.out⟩
    case round =>
      obtain ⟨j, rfl, hj, hbr⟩ := hrel
      obtain ⟨adr, capr, hv, -⟩ := hbr.own.shape
      subst hv
      have hln : (([45, 48, 46] : List UInt8) ++ zeros j).length ≤ 1000000 := by simp [zeros]; omega
      by_cases hlt : j < z
      · have hlt' : (j : Int) < z := by omega
        have Hbr := Lib.hid hbr
        have Hln := Lib.hid hln
        clear hbr hln
        go_wp2_with (first | ((with_reducible refine wpList_put (.tmp 242) ?_); refine ⟨rfl, F, w, _, _, [48], Hbr.out, by first | rfl | (go_simp; done), rfl, by decide, by decide, by first | decide | (have h := Hln.out; exact h), rfl, rfl, fun ad3 cap3 w3 hb3 => ?_⟩; have Hb3 := Lib.hid hb3; clear hb3) | fail)
        go_roundw
        case rel => exact ⟨j + 1, by go_num, hlt, by have h := Hb3.out; rw [zeros_succ] at h; simpa using h⟩
        case measure => simp [intOf]; omega
      · have hjz : z = j := by omega
        subst hjz
        have Hbr := Lib.hid hbr
        have Hln := Lib.hid hln
        clear hbr hln
        go_wp2_with fail
        go_loopw [0, 247] (fun tv i wr => ∃ j : Nat, i = .int .i64 j ∧ j ≤ n ∧ Buf F w wr tv (([45, 48, 46] : List UInt8) ++ zeros z ++ ds.take j)) (fun _ i _ => n - (intOf i).toNat)
        case atStart => exact ⟨0, rfl, Nat.zero_le _, by rw [List.take_zero, List.append_nil]; exact Hbr.out⟩
        case round =>
          clear Hln
          obtain ⟨j, rfl, hj2, hbs⟩ := hrel
          obtain ⟨ads, caps, hv, -⟩ := hbs.own.shape
          subst hv
          have hln : (([45, 48, 46] : List UInt8) ++ zeros z ++ ds.take j).length ≤ 1000000 := by simp [zeros]; omega
          by_cases hlt2 : j < n
          · have hlt' : (j : Int) < n := by omega
            have hj32 : (j : Int) < 32 := by omega
            obtain ⟨u, hu⟩ : ∃ u, ds[j]? = some u := ⟨_, List.getElem?_eq_getElem (by have := Hn.out; omega)⟩
            have c0 := hbs.digs Hd.out Hg.out j u hu
            unfold encU at c0
            have Hbs := Lib.hid hbs
            have Hln := Lib.hid hln
            have Hu := Lib.hid hu
            clear hbs hln hu
            go_wp2_with (first | ((with_reducible refine wpList_put (.tmp 250) ?_); refine ⟨rfl, F, w, _, _, [u], Hbs.out, by first | rfl | (go_simp; done), rfl, by decide, by decide, by first | decide | (have h := Hln.out; exact h), rfl, rfl, fun ad3 cap3 w3 hb3 => ?_⟩; have Hb3 := Lib.hid hb3; clear hb3) | fail)
            go_roundw
            case rel => exact ⟨j + 1, by go_num, hlt2, by have h := Hb3.out; rw [take_more _ ds j u Hu.out] at h; simpa using h⟩
            case measure => simp [intOf]; omega
          · have hjn : n = j := by omega
            subst hjn
            have Hbs := Lib.hid hbs
            have Hln := Lib.hid hln
            clear hbs hln
            go_wp2_with fail
            go_loopw [0, 261] (fun tv i wr => i = .int .i64 0 ∧ Buf F w wr tv (([45, 48, 46] : List UInt8) ++ zeros z ++ ds)) (fun _ _ _ => 0)
            case atStart => exact ⟨rfl, by simpa [List.take_of_length_le (Nat.le_of_eq Hn.out)] using Hbs.out⟩
            case round =>
              obtain ⟨rfl, hbt⟩ := hrel
              have Hbt := Lib.hid hbt
              clear hbt
              go_wp2_with fail
              go_ret
              exact ⟨_, rfl, Hbt.out⟩
end Go.Proofs.YtloplmaekonenaaGreatDoor
