/-
  TreeTurns.
-/
import Derived.Test.YtnckccpcpndcmaaTfit
import Derived.Test.YtnckccpcpndcmaaPow
namespace Go.Proofs.Ytnckccpcpndcmaa
open Go.RowKit

theorem prs_T : SliceT Try.prog 24 25 2 16 := sliceT (by kernel_rfl) (by kernel_rfl)

theorem prs_append (p q : List (Int × Int)) : prs (p ++ q) = prs p ++ prs q := List.flatMap_append

/-- What the loop that makes the pairs holds. -/
def TurnsRel (w : World) (m : Nat) (i a b : Value) (wr : World) : Prop :=
  ∃ ks : List Nat, i = .int .i64 ((ks.length + 1 : Nat) : Int) ∧ ks.length + 1 ≤ m ∧ ks ∈ allK ks.length ∧ OwnSl wr 25 2 a ks.length (prs (pairsA ks)) ∧ OwnSl wr 25 2 b ks.length (prs (pairsB ks)) ∧ (∀ g, a.ownBlock = some g → w.heap.size ≤ g ∧ b.ownBlock ≠ some g) ∧ Mod (fun _ => False) w wr

theorem turns_next {w wz w2 wy w3 : World} {ks : List Nat} {i k m : Nat} {a a' b' : Value} {o : Obj} {g0 : Nat} (hka : ks ∈ allK ks.length) (hi : ks.length + 1 = i) (hlt : i < m) (hki : k < i)
    (hap : ∀ g, a.ownBlock = some g → w.heap.size ≤ g) (_ : OwnSl wz 25 2 a ks.length (prs (pairsA ks))) (hmz : Mod (fun _ => False) w wz)
    (hA : Appended wz 25 2 a (ks.length + 1) (prs (pairsA ks) ++ [.int .i64 i, .int .i64 k]) a' w2) (hwy : w2.alloc o = wy) (hg0 : g0 = w2.heap.size)
    (hB : Appended wy 25 2 (.slice (some ⟨g0, 0, none⟩) 1 1) (1 + ks.length) ([.int .i64 k, .int .i64 i] ++ prs (pairsB ks)) b' w3) : TurnsRel w m (.int .i64 ((i : Int) + 1)) a' b' w3 := by
  subst hg0 hi
  obtain ⟨a1, a2, a3⟩ := hA
  obtain ⟨b1, b2, b3⟩ := hB
  have hsz : wy.heap.size = w2.heap.size + 1 := by rw [← hwy]; simp
  have hmy : Mod (fun _ => False) w2 wy := hwy ▸ (Mod.refl (fun _ => False) w2).alloc _
  have hm2 : Mod (fun _ => False) w w2 := hmz.upon a2 (fun g hg => .inr (hap g hg))
  have hb : ∀ g, inBlock (.slice (some ⟨w2.heap.size, 0, none⟩) 1 1) g → g = w2.heap.size := fun g hg => by
    simp only [inBlock, Value.ownBlock, Option.some.injEq] at hg
    exact hg.symm
  have l1 : (ks ++ [k]).length = ks.length + 1 := by simp
  have hs1 := hm2.size
  have hsz2 := hmz.size
  refine ⟨ks ++ [k], by rw [l1]; simp, by rw [l1]; omega, by rw [l1]; exact allK_next hka hki, ?_, ?_, fun g hg => ⟨?_, fun hg2 => ?_⟩, (hm2.trans hmy (fun _ _ h => h)).upon b2 (fun g hg => .inr ?_)⟩
  · rw [l1, pairsA_next, prs_append]
    exact (a1.mod hmy (fun _ _ h => h)).mod b2 (fun g hg hin => by have := a1.lt g hg; have := hb g hin; omega)
  · rw [l1, pairsB_next, prs_append, Nat.add_comm ks.length 1]
    rw [Nat.add_comm ks.length 1] at b1
    exact b1
  · rcases a3 with e | ⟨q, e, hq⟩
    · exact hap g (by rw [← e]; exact hg)
    · rw [e] at hg; cases hg; omega
  · have h1 := a1.lt g hg
    rcases b3 with e | ⟨q, e, hq⟩
    · have := hb g (by show Value.ownBlock _ = _; rw [← e]; exact hg2); omega
    · rw [e] at hg2; cases hg2; omega
  · have := hb g hg; omega

theorem turns_fact {ks : List Nat} {m : Nat} (hka : ks ∈ allK ks.length) (hi : ks.length + 1 = m) (hm : m ≤ 6) : ∃ N, newT m (pairsA ks) = (0, N) ∧ newT m (pairsB ks) = (0, N) ∧ N.length = m ∧ (∀ l ∈ N, l.length ≤ 6) ∧
    ∀ i : Nat, i < m → ∃ R S, pathF N 7 0 i = some R ∧ pathF N 7 i 0 = some S ∧ R.length = S.length := by
  subst hi
  have h := List.all_eq_true.1 (List.all_eq_true.1 turns_all ks.length (List.mem_range.2 (by omega))) ks hka
  unfold chkTurns at h
  simp only [Bool.and_eq_true, beq_iff_eq, okN, List.all_eq_true, List.mem_range, decide_eq_true_eq] at h
  obtain ⟨⟨⟨⟨h1, h2⟩, h3⟩, h4, h5⟩, h6⟩ := h
  rw [newT_ins, newT_ins]
  refine ⟨(newI (ks.length + 1 : Nat) (pairsA ks)).2, Prod.ext h1 rfl, Prod.ext h2 h3.symm, h4, h5, fun i hi => ?_⟩
  have h := h6 i hi
  rw [← h3] at h
  split at h
  · rename_i R S hR hS
    exact ⟨R, S, hR, hS, by simpa using h⟩
  · cases h
theorem near_le {N : List (List Int)} (h : ∀ l ∈ N, l.length ≤ 6) {b : Int} {l : List Int} (hl : nearF N b = l) : l.length ≤ 6 := by
  subst hl
  unfold nearF
  split
  · simp
  · simp only [List.getD]
    cases hq : N[b.toNat]? with
    | none => simp
    | some q => simpa using h q (List.mem_of_getElem? hq)

set_option maxRecDepth 20000 in
set_option maxHeartbeats 8000000 in
theorem turns_walk (w : World) (n : Int) (uv : Value) (us : List Int) (tn : Int) (hu : RdSl w 1 uv us.length (ints us)) (hul : us.length ≤ 9223372036854775807) :
    Calls Try.prog 3 #[.int .i64 n, uv, .int .i64 tn] w fun e w' => e = .returned (.bool true) ∧ Mod (fun _ => False) w w' := by
  obtain ⟨ua, uc, rfl, huc⟩ : ∃ a c, uv = .slice a us.length c ∧ us.length ≤ c := by obtain ⟨-, a, c, h, h2, -⟩ := hu; exact ⟨a, c, h, h2⟩
  have hf := fit09_at w
  obtain ⟨t, h7, ht⟩ := and7 n
  have ht' : (t : Int) < 8 := by omega
  have hul' : (us.length : Int) ≤ 9223372036854775807 := by omega
  have huc' : (us.length : Int) ≤ uc := by omega
  have Hf := Lib.hid hf
  have Hu := Lib.hid hu
  have H7 := Lib.hid h7
  clear hf hu h7
  go_enter Try.func3, Try.ntmps3
  go_wp2_with fail
  refine Hf.out.mono ?_
  rintro e w1 ⟨rfl, hm1⟩
  have Hm1 := Lib.hid hm1
  clear hm1 Hf
  have h7 := H7.out
  go_wp2_with fail
  clear h7
  obtain ⟨m, hm⟩ : ∃ m : Nat, (t : Int) % 6 + 1 = m := ⟨t % 6 + 1, by omega⟩
  have hm1 : (1 : Int) ≤ m := by omega
  have hm6 : (m : Int) ≤ 6 := by omega
  rw [hm]
  have Hm := Lib.hid hm
  clear hm ht ht' H7
  go_loopw [9, 7, 8] (fun i a b wr => TurnsRel w m i a b wr) (fun i _ _ _ => m - (intOf i).toNat)
  case atStart => exact ⟨[], rfl, by simp; omega, by simp [allK], OwnSl.nil _ _ _, OwnSl.nil _ _ _, fun g h => (by cases h), Hm1.out⟩
  case round =>
    obtain ⟨ks, rfl, hkm, hka, hoa, hob, hap, hmr⟩ := hrel
    obtain ⟨i, hi⟩ : ∃ i : Nat, ks.length + 1 = i := ⟨_, rfl⟩
    rw [hi]
    by_cases hlt : i < m
    · have hlt' : (i : Int) < m := by omega
      have hi1 : (1 : Int) ≤ i := by omega
      by_cases hiu : i < us.length
      · have hiu' : (i : Int) < us.length := by omega
        obtain ⟨x, hx⟩ : ∃ x, us[i]? = some x := ⟨_, List.getElem?_eq_getElem hiu⟩
        obtain ⟨ug, uoff, rfl, c⟩ := rd_int (Hu.out.mod hmr (fun _ _ h => h)) hx
        obtain ⟨q, hq, hq2⟩ := and16 x
        obtain ⟨k, hqq, hki⟩ : ∃ k : Nat, (q : Int) % i = k ∧ k < i := ⟨q % i, (Int.natCast_emod q i).symm, Nat.mod_lt _ (by omega)⟩
        obtain ⟨wz, hwz⟩ : ∃ wz : World, wr.alloc (.cells #[.int .i64 i, .int .i64 k] 25) = wz := ⟨_, rfl⟩
        have hmwz : Mod (fun _ => False) wr wz := hwz ▸ (Mod.refl (fun _ => False) wr).alloc _
        have hgwz := heap_alloc_new wr (.cells #[.int .i64 i, .int .i64 k] 25)
        rw [hwz] at hgwz
        have hzwz : wz.heap.size = wr.heap.size + 1 := by rw [← hwz]; simp
        obtain ⟨aa, ac, rfl, hac⟩ := hoa.shape
        obtain ⟨ba, bc, rfl, hbc⟩ := hob.shape
        have hrz : RdSl wz 2 (.slice (some ⟨wr.heap.size, 0, none⟩) 1 1) 1 [.int .i64 i, .int .i64 k] := hwz ▸ RdSl.one wr [.int .i64 i, .int .i64 k] 25 rfl
        have hone : ∀ u ∈ [Value.int .i64 i, .int .i64 k], u.oneCell' = true := by simp [Value.oneCell']
        have hone2 : ∀ u ∈ prs (pairsB ks), u.oneCell' = true := fun u hu => by
          obtain ⟨p, -, hu⟩ := List.mem_flatMap.1 hu
          rcases List.mem_cons.1 hu with rfl | hu
          · rfl
          · rw [List.mem_singleton] at hu; rw [hu]; rfl
        have hoz := hoa.mod hmwz (fun _ _ h => h)
        have hobz := hob.rd.mod hmwz (fun _ _ h => h)
        have hmz := hmr.trans hmwz (fun _ _ h => h)
        have hksl : ks.length ≤ 6 := by omega
        have Hwz := Lib.hid hwz
        have Hrz := Lib.hid hrz
        have Hone := Lib.hid hone
        have Hone2 := Lib.hid hone2
        have Hoz := Lib.hid hoz
        have Hobz := Lib.hid hobz
        have Hmz := Lib.hid hmz
        have Hap := Lib.hid hap
        clear hwz hrz hone hone2 hoz hobz hmz hap hmr hoa hob hgwz hzwz hmwz
        go_wp2_with (first | (rw [show wr.alloc _ = wz from Hwz.out]) | ((with_reducible refine wpList_append_lit (.tmp 41) (.tmp 45) 24 ?_); refine ⟨rfl, 25, 2, 16, prs_T, .slice aa ks.length ac, ks.length, prs (pairsA ks), rfl, Hoz.out, _, 1, [.int .i64 i, .int .i64 k], rfl, Hrz.out, Hone.out, by omega, by unfold maxLen; omega, ?_⟩; intro ad cap2 w2 hA; have hm2 := Hmz.out.upon hA.2.1 (fun b hb => .inr (Hap.out b hb).1); obtain ⟨wy, hwy⟩ : ∃ q, w2.alloc (.cells #[.int .i64 k, .int .i64 i] 25) = q := ⟨_, rfl⟩; have hob2 := (Hobz.out.mod hA.2.1 (fun b hb hin => (Hap.out b hin).2 hb)).mod (F := fun _ => False) (w' := wy) (hwy ▸ (Mod.refl _ w2).alloc _) (fun _ _ h => h); have hownY : OwnSl wy 25 2 (.slice (some ⟨w2.heap.size, 0, none⟩) 1 1) 1 [.int .i64 k, .int .i64 i] := ⟨rfl, .inr ⟨w2.heap.size, 0, 1, #[.int .i64 k, .int .i64 i], rfl, hwy ▸ heap_alloc_new w2 _, Nat.le_refl _, by unfold maxLen; omega, by simp, by simp⟩⟩; have HownY := Lib.hid hownY; have HA := Lib.hid hA; have Hm2 := Lib.hid hm2; have Hwy := Lib.hid hwy; have Hob2 := Lib.hid hob2; clear hA hm2 hwy hob2 hownY) | (rw [show World.alloc _ _ = wy from Hwy.out]) | ((with_reducible refine wpList_append_lit (.tmp 50) (.tmp 51) 24 ?_); refine ⟨rfl, 25, 2, 16, prs_T, .slice (some ⟨w2.heap.size, 0, none⟩) 1 1, 1, [.int .i64 k, .int .i64 i], rfl, HownY.out, _, ks.length, prs (pairsB ks), rfl, Hob2.out, Hone2.out, by omega, by unfold maxLen; omega, ?_⟩; intro ad3 cap3 w3 hB; have HB := Lib.hid hB; clear hB) | fail)
        have hN := turns_next (m := m) hka hi hlt hki (fun g h => (Hap.out g h).1) Hoz.out Hmz.out HA.out Hwy.out rfl HB.out
        have HN := Lib.hid hN
        clear hN HA HB Hm2 Hob2 HownY Hwy
        go_wp2_with fail
        go_roundw
        case rel => exact hi ▸ HN.out
        case measure => simp [intOf]; omega
      · have hiu' : (us.length : Int) ≤ i := by omega
        obtain ⟨wz, hwz⟩ : ∃ wz : World, wr.alloc (.cells #[.int .i64 i, .int .i64 0] 25) = wz := ⟨_, rfl⟩
        have hmwz : Mod (fun _ => False) wr wz := hwz ▸ (Mod.refl (fun _ => False) wr).alloc _
        have hgwz := heap_alloc_new wr (.cells #[.int .i64 i, .int .i64 0] 25)
        rw [hwz] at hgwz
        have hzwz : wz.heap.size = wr.heap.size + 1 := by rw [← hwz]; simp
        obtain ⟨aa, ac, rfl, hac⟩ := hoa.shape
        obtain ⟨ba, bc, rfl, hbc⟩ := hob.shape
        have hrz : RdSl wz 2 (.slice (some ⟨wr.heap.size, 0, none⟩) 1 1) 1 [.int .i64 i, .int .i64 0] := hwz ▸ RdSl.one wr [.int .i64 i, .int .i64 0] 25 rfl
        have hone : ∀ u ∈ [Value.int .i64 i, .int .i64 0], u.oneCell' = true := by simp [Value.oneCell']
        have hone2 : ∀ u ∈ prs (pairsB ks), u.oneCell' = true := fun u hu => by
          obtain ⟨p, -, hu⟩ := List.mem_flatMap.1 hu
          rcases List.mem_cons.1 hu with rfl | hu
          · rfl
          · rw [List.mem_singleton] at hu; rw [hu]; rfl
        have hoz := hoa.mod hmwz (fun _ _ h => h)
        have hobz := hob.rd.mod hmwz (fun _ _ h => h)
        have hmz := hmr.trans hmwz (fun _ _ h => h)
        have hksl : ks.length ≤ 6 := by omega
        have Hwz := Lib.hid hwz
        have Hrz := Lib.hid hrz
        have Hone := Lib.hid hone
        have Hone2 := Lib.hid hone2
        have Hoz := Lib.hid hoz
        have Hobz := Lib.hid hobz
        have Hmz := Lib.hid hmz
        have Hap := Lib.hid hap
        clear hwz hrz hone hone2 hoz hobz hmz hap hmr hoa hob hgwz hzwz hmwz
        go_wp2_with (first | (rw [show wr.alloc _ = wz from Hwz.out]) | ((with_reducible refine wpList_append_lit (.tmp 41) (.tmp 45) 24 ?_); refine ⟨rfl, 25, 2, 16, prs_T, .slice aa ks.length ac, ks.length, prs (pairsA ks), rfl, Hoz.out, _, 1, [.int .i64 i, .int .i64 0], rfl, Hrz.out, Hone.out, by omega, by unfold maxLen; omega, ?_⟩; intro ad cap2 w2 hA; have hm2 := Hmz.out.upon hA.2.1 (fun b hb => .inr (Hap.out b hb).1); obtain ⟨wy, hwy⟩ : ∃ q, w2.alloc (.cells #[.int .i64 0, .int .i64 i] 25) = q := ⟨_, rfl⟩; have hob2 := (Hobz.out.mod hA.2.1 (fun b hb hin => (Hap.out b hin).2 hb)).mod (F := fun _ => False) (w' := wy) (hwy ▸ (Mod.refl _ w2).alloc _) (fun _ _ h => h); have hownY : OwnSl wy 25 2 (.slice (some ⟨w2.heap.size, 0, none⟩) 1 1) 1 [.int .i64 0, .int .i64 i] := ⟨rfl, .inr ⟨w2.heap.size, 0, 1, #[.int .i64 0, .int .i64 i], rfl, hwy ▸ heap_alloc_new w2 _, Nat.le_refl _, by unfold maxLen; omega, by simp, by simp⟩⟩; have HownY := Lib.hid hownY; have HA := Lib.hid hA; have Hm2 := Lib.hid hm2; have Hwy := Lib.hid hwy; have Hob2 := Lib.hid hob2; clear hA hm2 hwy hob2 hownY) | (rw [show World.alloc _ _ = wy from Hwy.out]) | ((with_reducible refine wpList_append_lit (.tmp 50) (.tmp 51) 24 ?_); refine ⟨rfl, 25, 2, 16, prs_T, .slice (some ⟨w2.heap.size, 0, none⟩) 1 1, 1, [.int .i64 0, .int .i64 i], rfl, HownY.out, _, ks.length, prs (pairsB ks), rfl, Hob2.out, Hone2.out, by omega, by unfold maxLen; omega, ?_⟩; intro ad3 cap3 w3 hB; have HB := Lib.hid hB; clear hB) | fail)
        have hN := turns_next (m := m) (k := 0) hka hi hlt (by omega) (fun g h => (Hap.out g h).1) Hoz.out Hmz.out HA.out Hwy.out rfl HB.out
        have HN := Lib.hid hN
        clear hN HA HB Hm2 Hob2 HownY Hwy
        go_wp2_with fail
        go_roundw
        case rel => exact hi ▸ HN.out
        case measure => simp [intOf]; omega
    · obtain rfl : m = i := by omega
      obtain ⟨N, hnA, hnB, hNl, hNr, hpath⟩ := turns_fact hka hi (by omega)
      have hNm : (N.length : Int) = m := by omega
      obtain ⟨aa, ac, rfl, hac⟩ := hoa.shape
      obtain ⟨ba, bc, rfl, hbc⟩ := hob.shape
      have hc1 := new_at m (.slice aa ks.length ac) (pairsA ks) wr (by rw [pairsA_length]; exact hoa.rd) (by rw [pairsA_length]; omega)
      rw [hnA] at hc1
      have Hc1 := Lib.hid hc1
      have Hob := Lib.hid hob
      have Hmr := Lib.hid hmr
      have Hpath := Lib.hid hpath
      clear hc1 hob hmr hpath hap hoa hka hnA
      go_wp2_with fail
      refine Hc1.out.mono ?_
      rintro e w2 ⟨p1, rfl, -, hT1, hm2⟩
      obtain ⟨t1, rfl, ht1w, hT1⟩ := hT1 rfl
      have hc2 := new_at m (.slice ba ks.length bc) (pairsB ks) w2 (by rw [pairsB_length]; exact (Hob.out.mod hm2 (fun _ _ h => h)).rd) (by rw [pairsB_length]; omega)
      rw [hnB] at hc2
      have hm02 := Hmr.out.trans hm2 (fun _ _ h => h)
      have Hc2 := Lib.hid hc2
      have HT1 := Lib.hid hT1
      have Hm02 := Lib.hid hm02
      clear hc2 hT1 hm02 hnB hm2 ht1w Hc1 Hob Hmr
      go_wp2_with fail
      refine Hc2.out.mono ?_
      rintro e w3 ⟨p2, rfl, -, hT2, hm3⟩
      obtain ⟨t2, rfl, ht2w, hT2⟩ := hT2 rfl
      have hT13 := HT1.out.mod hm3
      have hm03 := Hm02.out.trans hm3 (fun _ _ h => h)
      have HT13 := Lib.hid hT13
      have HT2 := Lib.hid hT2
      have Hm03 := Lib.hid hm03
      clear hT13 hT2 hm03 hm3 ht2w Hc2 HT1 Hm02
      go_wp2_with fail
      go_loopw [80] (fun i wr => ∃ j : Nat, i = .int .i64 j ∧ j ≤ m ∧ TreeAt wr t1 N ∧ TreeAt wr t2 N ∧ Mod (fun _ => False) w wr) (fun i _ => m - (intOf i).toNat)
      case atStart => exact ⟨0, rfl, Nat.zero_le _, HT13.out, HT2.out, Hm03.out⟩
      case round =>
        obtain ⟨j, rfl, hj, hR1, hR2, hmr⟩ := hrel
        obtain ⟨wo, rfl⟩ : ∃ wo : World, wo = wr := ⟨_, rfl⟩
        by_cases hlt : j < m
        · have hlt' : (j : Int) < m := by omega
          obtain ⟨R, S, hRp, hSp, hRS⟩ := Hpath.out j hlt
          have hn1 := near_at wo t1 N j hR1 (by omega) (fun l hl => Nat.le_trans (hNr l hl) (by omega))
          obtain ⟨l, hl⟩ : ∃ l, nearF N j = l := ⟨_, rfl⟩
          rw [hl] at hn1
          have hll : l.length ≤ 6 := near_le hNr hl
          have hll' : (l.length : Int) ≤ 6 := by omega
          have Hn1 := Lib.hid hn1
          have HR1 := Lib.hid hR1
          have HR2 := Lib.hid hR2
          have Hmr := Lib.hid hmr
          have HNr := Lib.hid hNr
          have Hl := Lib.hid hl
          have HRp := Lib.hid hRp
          have HSp := Lib.hid hSp
          have HRS := Lib.hid hRS
          clear hn1 hR1 hR2 hmr hNr hl hRp hSp hRS
          go_wp2_with fail
          refine Hn1.out.mono ?_
          rintro e wp ⟨v1, rfl, ho1, hmp⟩
          have hP1 := HR1.out.mod hmp
          have hP2 := HR2.out.mod hmp
          have hn2 := near_at wp t2 N j hP2 (by omega) (fun l hl => Nat.le_trans (HNr.out l hl) (by omega))
          rw [Hl.out] at hn2
          have hmp2 := Hmr.out.trans hmp (fun _ _ h => h)
          have Hn2 := Lib.hid hn2
          have HP1 := Lib.hid hP1
          have HP2 := Lib.hid hP2
          have Ho1 := Lib.hid ho1
          have Hmp2 := Lib.hid hmp2
          clear hn2 hP1 hP2 ho1 hmp2 hmp Hn1 HR1 HR2 Hmr
          go_wp2_with fail
          refine Hn2.out.mono ?_
          rintro e wq ⟨v2, rfl, ho2, hmq⟩
          have hQ1 := HP1.out.mod hmq
          have hQ2 := HP2.out.mod hmq
          have ho1q := (Ho1.out.mod hmq (fun _ _ h => h)).rd
          have ho2q := ho2.rd
          have hmq2 := Hmp2.out.trans hmq (fun _ _ h => h)
          obtain ⟨a1, c1, rfl, hac1⟩ := Ho1.out.shape
          obtain ⟨a2, c2, rfl, hac2⟩ := ho2.shape
          have hac1' : (l.length : Int) ≤ c1 := by omega
          have hac2' : (l.length : Int) ≤ c2 := by omega
          have HQ1 := Lib.hid hQ1
          have HQ2 := Lib.hid hQ2
          have Ho1q := Lib.hid ho1q
          have Ho2q := Lib.hid ho2q
          have Hmq2 := Lib.hid hmq2
          clear hQ1 hQ2 ho1q ho2q hmq2 ho2 hmq Hn2 HP1 HP2 Hmp2 Ho1 hac1 hac2
          go_wp2_with fail
          go_loopw [96] (fun i wr => ∃ k : Nat, i = .int .i64 k ∧ k ≤ l.length ∧ ∃ d, wr = wq.drewN d) (fun i _ => l.length - (intOf i).toNat)
          case atStart => exact ⟨0, rfl, Nat.zero_le _, 0, rfl⟩
          case round =>
            obtain ⟨k, rfl, hk, d, rfl⟩ := hrel
            by_cases hkl : k < l.length
            · have hkl' : (k : Int) < l.length := by omega
              obtain ⟨x, hx⟩ : ∃ x, l[k]? = some x := ⟨_, List.getElem?_eq_getElem hkl⟩
              obtain ⟨g1, o1, rfl, d1⟩ := rd_int Ho1q.out hx
              obtain ⟨g2, o2, rfl, d2⟩ := rd_int Ho2q.out hx
              go_wp2_with fail
              go_quiet (fail)
              go_wp2_with fail
              go_roundw
              case rel => exact ⟨k + 1, by go_num, hkl, _, rfl⟩
              case measure => simp [intOf]; omega
            · obtain rfl : l.length = k := by omega
              have hp1 := path_at (wq.drewN d) t1 N 0 j 7 R (by omega) HRp.out (HQ1.out.mod ((Mod.refl (fun _ => False) wq).drewN d)) (by omega) (fun l hl => Nat.le_trans (HNr.out l hl) (by omega))
              have Hp1 := Lib.hid hp1
              clear hp1 Ho1q Ho2q
              go_wp2_with fail
              refine Hp1.out.mono ?_
              rintro e wy ⟨v1, rfl, hv1, -, -, hmy⟩
              obtain ⟨b1, e1, rfl, hbe1⟩ : ∃ a c, v1 = .slice a R.length c ∧ R.length ≤ c := by obtain ⟨-, a, c, h, h2, -⟩ := hv1; exact ⟨a, c, h, h2⟩
              have hZ1 := (HQ1.out.mod ((Mod.refl (fun _ => False) wq).drewN d)).mod hmy
              have hZ2 := (HQ2.out.mod ((Mod.refl (fun _ => False) wq).drewN d)).mod hmy
              have hmqy := (Hmq2.out.drewN d).trans hmy (fun _ _ h => h)
              have hp2 := path_at wy t2 N j 0 7 S (by omega) HSp.out hZ2 (by omega) (fun l hl => Nat.le_trans (HNr.out l hl) (by omega))
              have Hp2 := Lib.hid hp2
              have HZ1 := Lib.hid hZ1
              have HZ2 := Lib.hid hZ2
              have Hmqy := Lib.hid hmqy
              clear hp2 hZ1 hZ2 hmqy Hp1 hmy hv1 HQ1 HQ2 Hmq2
              go_wp2_with fail
              refine Hp2.out.mono ?_
              rintro e wx ⟨v2, rfl, hv2, -, -, hmx⟩
              obtain ⟨b2, e2, rfl, hbe2⟩ : ∃ a c, v2 = .slice a S.length c ∧ S.length ≤ c := by obtain ⟨-, a, c, h, h2, -⟩ := hv2; exact ⟨a, c, h, h2⟩
              have hX1 := HZ1.out.mod hmx
              have hX2 := HZ2.out.mod hmx
              have hmyx := Hmqy.out.trans hmx (fun _ _ h => h)
              rw [← HRS.out]
              have HX1 := Lib.hid hX1
              have HX2 := Lib.hid hX2
              have Hmyx := Lib.hid hmyx
              clear hX1 hX2 hmyx Hp2 hmx hv2 HZ1 HZ2 Hmqy
              go_wp2_with fail
              go_roundw
              case rel => exact ⟨j + 1, by go_num, hlt, HX1.out, HX2.out, Hmyx.out⟩
              case measure => simp [intOf]; omega
        · obtain rfl : m = j := by omega
          have Hmr := Lib.hid hmr
          clear hmr
          go_wp2_with fail
          go_ret
          exact ⟨rfl, Hmr.out⟩
end Go.Proofs.Ytnckccpcpndcmaa
