/-
  TreeEnds.
-/
import Derived.Test.YtnckccpcpndcmaaPairs
namespace Go.Proofs.Ytnckccpcpndcmaa
open Go.RowKit

theorem ends_fact {ks : List Nat} {m : Nat} (hka : ks ∈ allK ks.length) (hi : ks.length + 1 = m) (hm : m ≤ 6) : ∃ N, newT m (pairsC ks) = (0, N) ∧ N.length = m ∧ (∀ l ∈ N, l.length ≤ 6) ∧
    ((List.range m).map fun i : Nat => (nearF N i).length).sum = 2 * (m - 1) ∧
    ∀ i : Nat, i < m → (∃ R, pathF N 7 i 0 = some R ∧ R ≠ [] ∧ R.getLast? = some 0) ∧ ∀ j ∈ nearF N i, linkedF N j i = true ∧ ∃ R, pathF N 7 i j = some R ∧ R.length = 2 := by
  subst hi
  have h := List.all_eq_true.1 (List.all_eq_true.1 ends_all ks.length (List.mem_range.2 (by omega))) ks hka
  unfold chkEnds at h
  simp only [Bool.and_eq_true, beq_iff_eq, okN, List.all_eq_true, List.mem_range, decide_eq_true_eq] at h
  obtain ⟨⟨⟨h1, h4, h5⟩, h6⟩, h7⟩ := h
  rw [newT_ins]
  refine ⟨(newI (ks.length + 1 : Nat) (pairsC ks)).2, Prod.ext h1 rfl, h4, h5, h6, fun i hi => ?_⟩
  obtain ⟨h8, h9⟩ := h7 i hi
  refine ⟨?_, fun j hj => ?_⟩
  · split at h8
    · rename_i R hR
      simp only [Bool.and_eq_true, beq_iff_eq, decide_eq_true_eq] at h8
      exact ⟨R, hR, h8.1, h8.2⟩
    · cases h8
  · obtain ⟨h10, h11⟩ := h9 j hj
    refine ⟨h10, ?_⟩
    split at h11
    · rename_i R hR
      exact ⟨R, hR, by simpa using h11⟩
    · cases h11
def nearSum (N : List (List Int)) (j : Nat) : Nat := ((List.range j).map fun i : Nat => (nearF N i).length).sum
theorem nearSum_next (N : List (List Int)) (j : Nat) : nearSum N (j + 1) = nearSum N j + (nearF N j).length := by
  unfold nearSum; rw [List.range_succ]; simp
theorem nearSum_le {N : List (List Int)} (h : ∀ l ∈ N, l.length ≤ 6) : ∀ j, nearSum N j ≤ 6 * j
  | 0 => by simp [nearSum]
  | j + 1 => by rw [nearSum_next]; have := nearSum_le h j; have := near_le h (b := j) rfl; omega
theorem path_le {N : List (List Int)} {k : Nat} {a b : Int} {R : List Int} (h : pathF N k a b = some R) : R.length ≤ k := by
  unfold pathF at h
  split at h
  · cases h; exact Nat.zero_le _
  · exact wayF_len k _ _ _ _ h
theorem rd_last {l : List Int} {y : Int} (h : l.getLast? = some y) : ∃ r, l.length = r + 1 ∧ l[r]? = some y := by
  rw [List.getLast?_eq_getElem?] at h
  have := (List.getElem?_eq_some_iff.1 h).1
  exact ⟨l.length - 1, by omega, h⟩

set_option maxRecDepth 20000 in
set_option maxHeartbeats 8000000 in
theorem ends_walk (w : World) (n : Int) (uv : Value) (us : List Int) (hu : RdSl w 1 uv us.length (ints us)) (hul : us.length ≤ 9223372036854775807) :
    Calls Try.prog 6 #[.int .i64 n, uv] w fun e w' => e = .returned (.bool true) ∧ Mod (fun _ => False) w w' := by
  obtain ⟨ua, uc, rfl, huc⟩ : ∃ a c, uv = .slice a us.length c ∧ us.length ≤ c := by obtain ⟨-, a, c, h, h2, -⟩ := hu; exact ⟨a, c, h, h2⟩
  have hf := fit09_at w
  obtain ⟨t, h7, ht⟩ := and7 n
  have ht' : (t : Int) < 8 := by omega
  have hul' : (us.length : Int) ≤ 9223372036854775807 := by omega
  have huc' : (us.length : Int) ≤ uc := by omega
  have Hf := Lib.hid hf
  have Hu := Lib.hid hu
  have H7 := Lib.hid h7
  clear hf hu h7
  go_enter Try.func6, Try.ntmps6
  go_wp2_with fail
  refine Hf.out.mono ?_
  rintro e w1 ⟨rfl, hm1⟩
  have Hm1 := Lib.hid hm1
  clear hm1 Hf
  have h7 := H7.out
  go_wp2_with fail
  clear h7
  obtain ⟨m, hm⟩ : ∃ m : Nat, (t : Int) % 6 + 1 = m := ⟨t % 6 + 1, by omega⟩
  have hm1 : (1 : Int) ≤ m := by omega
  have hm6 : (m : Int) ≤ 6 := by omega
  rw [hm]
  have Hm := Lib.hid hm
  clear hm ht ht' H7
  go_loopw [6, 5] (fun i a wr => PairsRel pairsC w m i a wr) (fun i _ _ => m - (intOf i).toNat)
  case atStart => exact ⟨[], rfl, by simp; omega, by simp [allK], OwnSl.nil _ _ _, fun g h => (by cases h), Hm1.out⟩
  case round =>
    obtain ⟨ks, rfl, hkm, hka, hoa, hap, hmr⟩ := hrel
    obtain ⟨i, hi⟩ : ∃ i : Nat, ks.length + 1 = i := ⟨_, rfl⟩
    rw [hi]
    by_cases hlt : i < m
    · have hlt' : (i : Int) < m := by omega
      have hi1 : (1 : Int) ≤ i := by omega
      by_cases hiu : i < us.length
      · have hiu' : (i : Int) < us.length := by omega
        obtain ⟨x, hx⟩ : ∃ x, us[i]? = some x := ⟨_, List.getElem?_eq_getElem hiu⟩
        obtain ⟨ug, uoff, rfl, c⟩ := rd_int (Hu.out.mod hmr (fun _ _ h => h)) hx
        obtain ⟨q, hq, hq2⟩ := and16 x
        obtain ⟨k, hqq, hki⟩ : ∃ k : Nat, (q : Int) % i = k ∧ k < i := ⟨q % i, (Int.natCast_emod q i).symm, Nat.mod_lt _ (by omega)⟩
        obtain ⟨wz, hwz⟩ : ∃ wz : World, wr.alloc (.cells #[.int .i64 k, .int .i64 i] 25) = wz := ⟨_, rfl⟩
        have hmwz : Mod (fun _ => False) wr wz := hwz ▸ (Mod.refl (fun _ => False) wr).alloc _
        have hgwz := heap_alloc_new wr (.cells #[.int .i64 k, .int .i64 i] 25)
        rw [hwz] at hgwz
        have hzwz : wz.heap.size = wr.heap.size + 1 := by rw [← hwz]; simp
        obtain ⟨aa, ac, rfl, hac⟩ := hoa.shape
        have hrz : RdSl wz 2 (.slice (some ⟨wr.heap.size, 0, none⟩) 1 1) 1 [.int .i64 k, .int .i64 i] := hwz ▸ RdSl.one wr [.int .i64 k, .int .i64 i] 25 rfl
        have hone : ∀ u ∈ [Value.int .i64 k, .int .i64 i], u.oneCell' = true := by simp [Value.oneCell']
        have hoz := hoa.mod hmwz (fun _ _ h => h)
        have hmz := hmr.trans hmwz (fun _ _ h => h)
        have hksl : ks.length ≤ 6 := by omega
        have Hwz := Lib.hid hwz
        have Hrz := Lib.hid hrz
        have Hone := Lib.hid hone
        have Hoz := Lib.hid hoz
        have Hmz := Lib.hid hmz
        have Hap := Lib.hid hap
        clear hwz hrz hone hoz hmz hap hmr hoa hgwz hzwz hmwz
        go_wp2_with (first | (rw [show wr.alloc _ = wz from Hwz.out]) | ((with_reducible refine wpList_append_lit (.tmp 37) (.tmp 41) 24 ?_); refine ⟨rfl, 25, 2, 16, prs_T, .slice aa ks.length ac, ks.length, prs (pairsC ks), rfl, Hoz.out, _, 1, [.int .i64 k, .int .i64 i], rfl, Hrz.out, Hone.out, by omega, by unfold maxLen; omega, ?_⟩; intro ad cap2 w2 hA; have HA := Lib.hid hA; clear hA) | fail)
        have hN := pairs_next (m := m) (k := k) (p := ((k : Int), (i : Int))) hka hi hlt (by omega) (by rw [pairsC_next, hi]) Hap.out Hmz.out HA.out
        have HN := Lib.hid hN
        clear hN HA
        go_wp2_with fail
        go_roundw
        case rel => exact hi ▸ HN.out
        case measure => simp [intOf]; omega
      · have hiu' : (us.length : Int) ≤ i := by omega
        obtain ⟨wz, hwz⟩ : ∃ wz : World, wr.alloc (.cells #[.int .i64 0, .int .i64 i] 25) = wz := ⟨_, rfl⟩
        have hmwz : Mod (fun _ => False) wr wz := hwz ▸ (Mod.refl (fun _ => False) wr).alloc _
        have hgwz := heap_alloc_new wr (.cells #[.int .i64 0, .int .i64 i] 25)
        rw [hwz] at hgwz
        have hzwz : wz.heap.size = wr.heap.size + 1 := by rw [← hwz]; simp
        obtain ⟨aa, ac, rfl, hac⟩ := hoa.shape
        have hrz : RdSl wz 2 (.slice (some ⟨wr.heap.size, 0, none⟩) 1 1) 1 [.int .i64 0, .int .i64 i] := hwz ▸ RdSl.one wr [.int .i64 0, .int .i64 i] 25 rfl
        have hone : ∀ u ∈ [Value.int .i64 0, .int .i64 i], u.oneCell' = true := by simp [Value.oneCell']
        have hoz := hoa.mod hmwz (fun _ _ h => h)
        have hmz := hmr.trans hmwz (fun _ _ h => h)
        have hksl : ks.length ≤ 6 := by omega
        have Hwz := Lib.hid hwz
        have Hrz := Lib.hid hrz
        have Hone := Lib.hid hone
        have Hoz := Lib.hid hoz
        have Hmz := Lib.hid hmz
        have Hap := Lib.hid hap
        clear hwz hrz hone hoz hmz hap hmr hoa hgwz hzwz hmwz
        go_wp2_with (first | (rw [show wr.alloc _ = wz from Hwz.out]) | ((with_reducible refine wpList_append_lit (.tmp 37) (.tmp 41) 24 ?_); refine ⟨rfl, 25, 2, 16, prs_T, .slice aa ks.length ac, ks.length, prs (pairsC ks), rfl, Hoz.out, _, 1, [.int .i64 0, .int .i64 i], rfl, Hrz.out, Hone.out, by omega, by unfold maxLen; omega, ?_⟩; intro ad cap2 w2 hA; have HA := Lib.hid hA; clear hA) | fail)
        have hN := pairs_next (m := m) (k := 0) (p := ((((0 : Nat)) : Int), (i : Int))) hka hi hlt (by omega) (by rw [pairsC_next, hi]) Hap.out Hmz.out HA.out
        have HN := Lib.hid hN
        clear hN HA
        go_wp2_with fail
        go_roundw
        case rel => exact hi ▸ HN.out
        case measure => simp [intOf]; omega
    · obtain rfl : m = i := by omega
      obtain ⟨N, hnA, hNl, hNr, hsum, hpath⟩ := ends_fact hka hi (by omega)
      have hNm : (N.length : Int) = m := by omega
      obtain ⟨aa, ac, rfl, hac⟩ := hoa.shape
      have hc1 := new_at m (.slice aa ks.length ac) (pairsC ks) wr (by rw [pairsC_length]; exact hoa.rd) (by rw [pairsC_length]; omega)
      rw [hnA] at hc1
      have Hc1 := Lib.hid hc1
      have Hmr := Lib.hid hmr
      have Hpath := Lib.hid hpath
      have Hsum := Lib.hid hsum
      clear hc1 hmr hpath hsum hap hoa hka hnA
      go_wp2_with fail
      refine Hc1.out.mono ?_
      rintro e w2 ⟨p1, rfl, -, hT1, hm2⟩
      obtain ⟨t1, rfl, ht1w, hT1⟩ := hT1 rfl
      have hm02 := Hmr.out.trans hm2 (fun _ _ h => h)
      have HT1 := Lib.hid hT1
      have Hm02 := Lib.hid hm02
      clear hT1 hm02 hm2 ht1w Hc1 Hmr
      go_wp2_with fail
      go_loopw [56, 10] (fun i s wr => ∃ j q : Nat, i = .int .i64 j ∧ s = .int .i64 q ∧ q = nearSum N j ∧ j ≤ m ∧ TreeAt wr t1 N ∧ Mod (fun _ => False) w wr) (fun i _ _ => m - (intOf i).toNat)
      case atStart => exact ⟨0, 0, rfl, rfl, rfl, Nat.zero_le _, HT1.out, Hm02.out⟩
      case round =>
        obtain ⟨j, q, rfl, rfl, hq, hj, hR1, hmr⟩ := hrel
        obtain ⟨wo, rfl⟩ : ∃ wo : World, wo = wr := ⟨_, rfl⟩
        by_cases hlt : j < m
        · have hlt' : (j : Int) < m := by omega
          obtain ⟨⟨R, hRp, hRn, hRl⟩, hJ⟩ := Hpath.out j hlt
          obtain ⟨r, hr, hrx⟩ := rd_last hRl
          have hn1 := near_at wo t1 N j hR1 (by omega) (fun l hl => Nat.le_trans (hNr l hl) (by omega))
          have hq2 := nearSum_next N j
          have hq3 := nearSum_le hNr j
          obtain ⟨l, hl⟩ : ∃ l, nearF N j = l := ⟨_, rfl⟩
          rw [hl] at hn1 hJ hq2
          have hll : l.length ≤ 6 := near_le hNr hl
          have hll' : (l.length : Int) ≤ 6 := by omega
          have hq' : (q : Int) ≤ 36 := by omega
          have hq4 : q + l.length = nearSum N (j + 1) := by omega
          have hwl := path_le hRp
          have hr7 : (r : Int) ≤ 7 := by omega
          have Hn1 := Lib.hid hn1
          have HR1 := Lib.hid hR1
          have Hmr := Lib.hid hmr
          have HNr := Lib.hid hNr
          have Hl := Lib.hid hl
          have HRp := Lib.hid hRp
          have HRl := Lib.hid hRl
          have HJ := Lib.hid hJ
          have Hq := Lib.hid hq
          have Hq2 := Lib.hid hq2
          have Hq3 := Lib.hid hq3
          have Hq4 := Lib.hid hq4
          have Hrx := Lib.hid hrx
          clear hn1 hR1 hmr hNr hl hRp hRl hJ hq hq2 hq3 hq4 hrx hRn
          go_wp2_with fail
          refine Hn1.out.mono ?_
          rintro e wp ⟨v1, rfl, ho1, hmp⟩
          obtain ⟨a1, c1, rfl, hac1⟩ := ho1.shape
          have hP1 := HR1.out.mod hmp
          have hmp2 := Hmr.out.trans hmp (fun _ _ h => h)
          have hp := path_at wp t1 N j 0 7 R (by omega) HRp.out hP1 (by omega) (fun l hl => Nat.le_trans (HNr.out l hl) (by omega))
          have Hp := Lib.hid hp
          have HP1 := Lib.hid hP1
          have Hmp2 := Lib.hid hmp2
          clear hp hP1 hmp2 hmp ho1 Hn1 HR1 Hmr hac1
          go_wp2_with fail
          refine Hp.out.mono ?_
          rintro e wq ⟨v1, rfl, hv1, -, -, hmq⟩
          obtain ⟨b1, e1, rfl, hbe1⟩ : ∃ a c, v1 = .slice a R.length c ∧ R.length ≤ c := by obtain ⟨-, a, c, h, h2, -⟩ := hv1; exact ⟨a, c, h, h2⟩
          obtain ⟨g1, o1, rfl, d1⟩ := rd_int hv1 Hrx.out
          have hQ1 := HP1.out.mod hmq
          have hmq2 := Hmp2.out.trans hmq (fun _ _ h => h)
          have hbe' : (r : Int) + 1 ≤ e1 := by omega
          rw [hr]
          have hn2 := near_at wq t1 N j hQ1 (by omega) (fun l hl => Nat.le_trans (HNr.out l hl) (by omega))
          rw [Hl.out] at hn2
          have HQ1 := Lib.hid hQ1
          have Hmq2 := Lib.hid hmq2
          have Hn2 := Lib.hid hn2
          clear hQ1 hmq2 hn2 hmq hv1 Hp HP1 Hmp2 hbe1
          go_wp2_with fail
          refine Hn2.out.mono ?_
          rintro e wx ⟨v2, rfl, ho2, hmx⟩
          obtain ⟨a2, c2, rfl, hac2⟩ := ho2.shape
          have ho2 := ho2.rd
          have hX1 := HQ1.out.mod hmx
          have hmx2 := Hmq2.out.trans hmx (fun _ _ h => h)
          have hac2' : (l.length : Int) ≤ c2 := by omega
          have Ho2 := Lib.hid ho2
          have HX1 := Lib.hid hX1
          have Hmx2 := Lib.hid hmx2
          clear ho2 hX1 hmx2 hmx Hn2 HQ1 Hmq2 d1 Hrx hac2
          go_wp2_with fail
          go_loopw [84] (fun i wr => ∃ k : Nat, i = .int .i64 k ∧ k ≤ l.length ∧ Mod (fun _ => False) wx wr) (fun i _ => l.length - (intOf i).toNat)
          case atStart => exact ⟨0, rfl, Nat.zero_le _, Mod.refl _ _⟩
          case round =>
            obtain ⟨k, rfl, hk, hmr⟩ := hrel
            have hTr := HX1.out.mod hmr
            by_cases hkl : k < l.length
            · have hkl' : (k : Int) < l.length := by omega
              obtain ⟨x, hx⟩ : ∃ x, l[k]? = some x := ⟨_, List.getElem?_eq_getElem hkl⟩
              obtain ⟨hlk, S, hS, hSl⟩ := HJ.out x (List.mem_of_getElem? hx)
              obtain ⟨g2, o2, rfl, d2⟩ := rd_int (Ho2.out.mod hmr (fun _ _ h => h)) hx
              have hp := path_at wr t1 N j x 7 S (by omega) hS hTr (by omega) (fun l hl => Nat.le_trans (HNr.out l hl) (by omega))
              have Hp := Lib.hid hp
              have HTr := Lib.hid hTr
              have Hmr := Lib.hid hmr
              have Hlk := Lib.hid hlk
              clear hp hTr hmr hlk hS hx
              go_wp2_with fail
              refine Hp.out.mono ?_
              rintro e wy ⟨v1, rfl, hv1, -, -, hmy⟩
              obtain ⟨b3, e3, rfl, hbe3⟩ : ∃ a c, v1 = .slice a S.length c ∧ S.length ≤ c := by obtain ⟨-, a, c, h, h2, -⟩ := hv1; exact ⟨a, c, h, h2⟩
              have hY := HTr.out.mod hmy
              have hmy2 := Hmr.out.trans hmy (fun _ _ h => h)
              have hli := linked_at wy t1 N x j hY (by omega) (fun l hl => Nat.le_trans (HNr.out l hl) (by omega))
              rw [Hlk.out] at hli
              rw [hSl]
              have HY := Lib.hid hY
              have Hmy2 := Lib.hid hmy2
              have Hli := Lib.hid hli
              clear hY hmy2 hli hmy hv1 Hp HTr Hmr Hlk hbe3 hSl
              go_wp2_with fail
              refine Hli.out.mono ?_
              rintro e wz ⟨rfl, hmz⟩
              have hmz2 := Hmy2.out.trans hmz (fun _ _ h => h)
              have Hmz2 := Lib.hid hmz2
              clear hmz2 hmz Hli HY Hmy2 d2
              go_wp2_with fail
              go_roundw
              case rel => exact ⟨k + 1, by go_num, hkl, Hmz2.out⟩
              case measure => simp [intOf]; omega
            · obtain rfl : l.length = k := by omega
              have hmz := Hmx2.out.trans hmr (fun _ _ h => h)
              have HTr := Lib.hid hTr
              have Hmz := Lib.hid hmz
              clear hTr hmz hmr
              go_wp2_with fail
              go_roundw
              case rel => exact ⟨j + 1, q + l.length, by go_num, by go_num, Hq4.out, hlt, HTr.out, Hmz.out⟩
              case measure => simp [intOf]; omega
        · obtain rfl : m = j := by omega
          have hq5 : (q : Int) = 2 * (m - 1) := by
            have := Hsum.out
            unfold nearSum at hq
            omega
          have hb : ((q : Int) == 2 * ((m : Int) - 1)) = true := by rw [hq5]; exact beq_self_eq_true _
          have Hmr := Lib.hid hmr
          clear hmr hq5 hq
          go_wp2_with fail
          go_ret
          exact ⟨rfl, Hmr.out⟩
end Go.Proofs.Ytnckccpcpndcmaa
