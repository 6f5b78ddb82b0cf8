/-
  TreePaths.
-/
import Derived.Test.YtnckccpcpndcmaaPairs
import Derived.Test.YtnckccpcpndcmaaEnds
import Derived.Test.YtnckccpcpndcmaaMapb
namespace Go.Proofs.Ytnckccpcpndcmaa
open Go.RowKit

/-- What the walk asks of the ways between two: none (where one of the two is no broker), or one and its reverse. -/
def PathsGood (N : List (List Int)) (x y : Int) (R S : List Int) : Prop := ∃ (r : Nat) (B : Bool), S = R.reverse ∧ R.length = r + 1 ∧ R[0]? = some x ∧ R[r]? = some y ∧ (x == y) = B ∧ (((r : Int) + 1) == 1) = B ∧ R.Nodup ∧ steps N R = true ∧ ∀ z ∈ R, 0 ≤ z ∧ z < 6
theorem paths_fact {ks : List Nat} {m : Nat} (hka : ks ∈ allK ks.length) (hi : ks.length + 1 = m) (hm : m ≤ 6) : ∃ N, newT m (pairsA ks) = (0, N) ∧ N.length = m ∧ (∀ l ∈ N, l.length ≤ 6) ∧
    ∀ x y : Int, ∃ R S, pathF N 7 x y = some R ∧ pathF N 7 y x = some S ∧ (((x < 0 ∨ y < 0 ∨ (m : Int) ≤ x ∨ (m : Int) ≤ y) ∧ R = [] ∧ S = []) ∨ ((0 ≤ x ∧ 0 ≤ y ∧ x < m ∧ y < m) ∧ PathsGood N x y R S)) := by
  subst hi
  have h := List.all_eq_true.1 (List.all_eq_true.1 paths_all ks.length (List.mem_range.2 (by omega))) ks hka
  unfold chkPaths at h
  simp only [Bool.and_eq_true, beq_iff_eq, okN, List.all_eq_true, List.mem_range, decide_eq_true_eq] at h
  obtain ⟨⟨h1, h4, h5⟩, h6⟩ := h
  rw [newT_ins]
  refine ⟨(newI (ks.length + 1 : Nat) (pairsA ks)).2, Prod.ext h1 rfl, h4, h5, fun x y => ?_⟩
  by_cases hb : x < 0 ∨ y < 0 ∨ ((ks.length + 1 : Nat) : Int) ≤ x ∨ ((ks.length + 1 : Nat) : Int) ≤ y
  · refine ⟨[], [], ?_, ?_, .inl ⟨hb, rfl, rfl⟩⟩
    · unfold pathF; rw [h4, if_pos hb]
    · unfold pathF; rw [h4, if_pos (by omega)]
  · have hx : 0 ≤ x ∧ 0 ≤ y ∧ x < (ks.length + 1 : Nat) ∧ y < (ks.length + 1 : Nat) := by omega
    obtain ⟨x, rfl⟩ : ∃ a : Nat, x = a := ⟨x.toNat, by omega⟩
    obtain ⟨y, rfl⟩ : ∃ a : Nat, y = a := ⟨y.toNat, by omega⟩
    have h := h6 x (by omega) y (by omega)
    split at h
    · rename_i R S hR hS
      simp only [Bool.and_eq_true, beq_iff_eq, decide_eq_true_eq, List.all_eq_true] at h
      obtain ⟨⟨⟨⟨⟨⟨g1, g2⟩, g3⟩, g4⟩, g5⟩, g6⟩, g7⟩ := h
      obtain ⟨r, k1, k2⟩ := rd_last g3
      refine ⟨R, S, hR, hS, .inr ⟨hx, r, _, g1, k1, by rw [← List.head?_eq_getElem?]; exact g2, k2, rfl, ?_, g5, g6, g7⟩⟩
      rw [k1] at g4
      rw [Bool.eq_iff_iff] at g4 ⊢
      simp only [beq_iff_eq] at g4 ⊢
      omega
    · cases h
theorem steps_at {N : List (List Int)} : ∀ {R : List Int} {k : Nat} {x y : Int}, steps N R = true → R[k]? = some x → R[k + 1]? = some y → linkedF N x y = true
  | [], _, _, _, _, h, _ => by simp at h
  | [_], _, _, _, _, _, h => by simp at h
  | a :: b :: l, 0, x, y, h, h1, h2 => by
    simp only [List.getElem?_cons_zero, List.getElem?_cons_succ, Option.some.injEq] at h1 h2
    subst h1 h2
    unfold steps at h
    rw [Bool.and_eq_true] at h
    exact h.1
  | a :: b :: l, k + 1, x, y, h, h1, h2 => by
    unfold steps at h
    rw [Bool.and_eq_true] at h
    rw [List.getElem?_cons_succ] at h1 h2
    exact steps_at h.2 h1 h2
theorem nodup_take {R : List Int} {k : Nat} {x : Int} (h : R.Nodup) (hx : R[k]? = some x) : x ∉ R.take k := fun hm => by
  obtain ⟨i, hi, e⟩ := List.mem_iff_getElem.1 hm
  obtain ⟨hk, e2⟩ := List.getElem?_eq_some_iff.1 hx
  rw [List.length_take] at hi
  rw [List.getElem_take, ← e2] at e
  exact List.pairwise_iff_getElem.1 h i k (by omega) hk (by omega) e
theorem take_next {R : List Int} {k : Nat} {x : Int} (hx : R[k]? = some x) (z : Int) : (z ∈ R.take k ∨ z = x) ↔ z ∈ R.take (k + 1) := by
  rw [List.take_add_one, hx]
  simp
theorem rev_at {R : List Int} {r k q : Nat} {x : Int} (hr : R.length = r + 1) (hq : q + k = r) (hx : R[k]? = some x) : R.reverse[q]? = some x := by
  rw [List.getElem?_reverse (by omega), show R.length - 1 - q = k by omega]
  exact hx

/-- What the loop over a way holds. -/
def WayRel (R : List Int) (r : Nat) (w5 : World) (i : Value) (wr : World) : Prop :=
  ∃ k nn : Nat, i = .int .i64 k ∧ k ≤ r + 1 ∧ nn ≤ k ∧ MapB wr w5.heap.size nn (fun z => z ∈ R.take k) ∧ Mod (fun _ => False) w5 wr

set_option maxRecDepth 20000 in
set_option maxHeartbeats 8000000 in
theorem paths_walk (w : World) (n : Int) (uv : Value) (us : List Int) (x y : Int) (hu : RdSl w 1 uv us.length (ints us)) (hul : us.length ≤ 9223372036854775807) :
    Calls Try.prog 5 #[.int .i64 n, uv, .agg #[.int .i64 x, .int .i64 y]] w fun e w' => e = .returned (.bool true) ∧ Mod (fun _ => False) w w' := by
  obtain ⟨ua, uc, rfl, huc⟩ : ∃ a c, uv = .slice a us.length c ∧ us.length ≤ c := by obtain ⟨-, a, c, h, h2, -⟩ := hu; exact ⟨a, c, h, h2⟩
  obtain ⟨wb, hwb⟩ : ∃ wb : World, w.alloc (.cells #[.int .i64 x, .int .i64 y] 25) = wb := ⟨_, rfl⟩
  have hmwb : Mod (fun _ => False) w wb := hwb ▸ (Mod.refl (fun _ => False) w).alloc _
  have hgwb := heap_alloc_new w (.cells #[.int .i64 x, .int .i64 y] 25)
  rw [hwb] at hgwb
  have hzwb : wb.heap.size = w.heap.size + 1 := by rw [← hwb]; simp
  have hf := fit09_at wb
  have hu := hu.mod hmwb (fun _ _ h => h)
  obtain ⟨t, h7, ht⟩ := and7 n
  have ht' : (t : Int) < 8 := by omega
  have hul' : (us.length : Int) ≤ 9223372036854775807 := by omega
  have huc' : (us.length : Int) ≤ uc := by omega
  have Hf := Lib.hid hf
  have Hu := Lib.hid hu
  have H7 := Lib.hid h7
  have Hwb := Lib.hid hwb
  have Hgwb := Lib.hid hgwb
  have Hmwb := Lib.hid hmwb
  clear hf hu h7 hwb hgwb hmwb hzwb
  have hmm := @run_makeMap Try.prog
  go_enter Try.func5, Try.ntmps5
  go_wp2_with (first | (rw [show w.alloc _ = wb from Hwb.out]) | fail)
  refine Hf.out.mono ?_
  rintro e w1 ⟨rfl, hm1⟩
  have Hm1 := Lib.hid hm1
  clear hm1 Hf
  have h7 := H7.out
  go_wp2_with fail
  clear h7
  obtain ⟨m, hm⟩ : ∃ m : Nat, (t : Int) % 6 + 1 = m := ⟨t % 6 + 1, by omega⟩
  have hm1 : (1 : Int) ≤ m := by omega
  have hm6 : (m : Int) ≤ 6 := by omega
  rw [hm]
  have Hm := Lib.hid hm
  clear hm ht ht' H7
  go_loopw [8, 7] (fun i a wr => PairsRel pairsA wb m i a wr) (fun i _ _ => m - (intOf i).toNat)
  case atStart => exact ⟨[], rfl, by simp; omega, by simp [allK], OwnSl.nil _ _ _, fun g h => (by cases h), Hm1.out⟩
  case round =>
    obtain ⟨ks, rfl, hkm, hka, hoa, hap, hmr⟩ := hrel
    obtain ⟨i, hi⟩ : ∃ i : Nat, ks.length + 1 = i := ⟨_, rfl⟩
    rw [hi]
    by_cases hlt : i < m
    · have hlt' : (i : Int) < m := by omega
      have hi1 : (1 : Int) ≤ i := by omega
      by_cases hiu : i < us.length
      · have hiu' : (i : Int) < us.length := by omega
        obtain ⟨x, hx⟩ : ∃ x, us[i]? = some x := ⟨_, List.getElem?_eq_getElem hiu⟩
        obtain ⟨ug, uoff, rfl, c⟩ := rd_int (Hu.out.mod hmr (fun _ _ h => h)) hx
        obtain ⟨q, hq, hq2⟩ := and16 x
        obtain ⟨k, hqq, hki⟩ : ∃ k : Nat, (q : Int) % i = k ∧ k < i := ⟨q % i, (Int.natCast_emod q i).symm, Nat.mod_lt _ (by omega)⟩
        obtain ⟨wz, hwz⟩ : ∃ wz : World, wr.alloc (.cells #[.int .i64 i, .int .i64 k] 25) = wz := ⟨_, rfl⟩
        have hmwz : Mod (fun _ => False) wr wz := hwz ▸ (Mod.refl (fun _ => False) wr).alloc _
        have hgwz := heap_alloc_new wr (.cells #[.int .i64 i, .int .i64 k] 25)
        rw [hwz] at hgwz
        have hzwz : wz.heap.size = wr.heap.size + 1 := by rw [← hwz]; simp
        obtain ⟨aa, ac, rfl, hac⟩ := hoa.shape
        have hrz : RdSl wz 2 (.slice (some ⟨wr.heap.size, 0, none⟩) 1 1) 1 [.int .i64 i, .int .i64 k] := hwz ▸ RdSl.one wr [.int .i64 i, .int .i64 k] 25 rfl
        have hone : ∀ u ∈ [Value.int .i64 i, .int .i64 k], u.oneCell' = true := by simp [Value.oneCell']
        have hoz := hoa.mod hmwz (fun _ _ h => h)
        have hmz := hmr.trans hmwz (fun _ _ h => h)
        have hksl : ks.length ≤ 6 := by omega
        have Hwz := Lib.hid hwz
        have Hrz := Lib.hid hrz
        have Hone := Lib.hid hone
        have Hoz := Lib.hid hoz
        have Hmz := Lib.hid hmz
        have Hap := Lib.hid hap
        clear hwz hrz hone hoz hmz hap hmr hoa hgwz hzwz hmwz
        go_wp2_with (first | (rw [show wr.alloc _ = wz from Hwz.out]) | ((with_reducible refine wpList_append_lit (.tmp 41) (.tmp 45) 24 ?_); refine ⟨rfl, 25, 2, 16, prs_T, .slice aa ks.length ac, ks.length, prs (pairsA ks), rfl, Hoz.out, _, 1, [.int .i64 i, .int .i64 k], rfl, Hrz.out, Hone.out, by omega, by unfold maxLen; omega, ?_⟩; intro ad cap2 w2 hA; have HA := Lib.hid hA; clear hA) | fail)
        have hN := pairs_next (m := m) (k := k) (p := ((i : Int), (k : Int))) hka hi hlt (by omega) (by rw [pairsA_next, hi]) Hap.out Hmz.out HA.out
        have HN := Lib.hid hN
        clear hN HA
        go_wp2_with fail
        go_roundw
        case rel => exact hi ▸ HN.out
        case measure => simp [intOf]; omega
      · have hiu' : (us.length : Int) ≤ i := by omega
        obtain ⟨wz, hwz⟩ : ∃ wz : World, wr.alloc (.cells #[.int .i64 i, .int .i64 0] 25) = wz := ⟨_, rfl⟩
        have hmwz : Mod (fun _ => False) wr wz := hwz ▸ (Mod.refl (fun _ => False) wr).alloc _
        have hgwz := heap_alloc_new wr (.cells #[.int .i64 i, .int .i64 0] 25)
        rw [hwz] at hgwz
        have hzwz : wz.heap.size = wr.heap.size + 1 := by rw [← hwz]; simp
        obtain ⟨aa, ac, rfl, hac⟩ := hoa.shape
        have hrz : RdSl wz 2 (.slice (some ⟨wr.heap.size, 0, none⟩) 1 1) 1 [.int .i64 i, .int .i64 0] := hwz ▸ RdSl.one wr [.int .i64 i, .int .i64 0] 25 rfl
        have hone : ∀ u ∈ [Value.int .i64 i, .int .i64 0], u.oneCell' = true := by simp [Value.oneCell']
        have hoz := hoa.mod hmwz (fun _ _ h => h)
        have hmz := hmr.trans hmwz (fun _ _ h => h)
        have hksl : ks.length ≤ 6 := by omega
        have Hwz := Lib.hid hwz
        have Hrz := Lib.hid hrz
        have Hone := Lib.hid hone
        have Hoz := Lib.hid hoz
        have Hmz := Lib.hid hmz
        have Hap := Lib.hid hap
        clear hwz hrz hone hoz hmz hap hmr hoa hgwz hzwz hmwz
        go_wp2_with (first | (rw [show wr.alloc _ = wz from Hwz.out]) | ((with_reducible refine wpList_append_lit (.tmp 41) (.tmp 45) 24 ?_); refine ⟨rfl, 25, 2, 16, prs_T, .slice aa ks.length ac, ks.length, prs (pairsA ks), rfl, Hoz.out, _, 1, [.int .i64 i, .int .i64 0], rfl, Hrz.out, Hone.out, by omega, by unfold maxLen; omega, ?_⟩; intro ad cap2 w2 hA; have HA := Lib.hid hA; clear hA) | fail)
        have hN := pairs_next (m := m) (k := 0) (p := ((i : Int), (((0 : Nat)) : Int))) hka hi hlt (by omega) (by rw [pairsA_next, hi]) Hap.out Hmz.out HA.out
        have HN := Lib.hid hN
        clear hN HA
        go_wp2_with fail
        go_roundw
        case rel => exact hi ▸ HN.out
        case measure => simp [intOf]; omega
    · obtain rfl : m = i := by omega
      obtain ⟨N, hnA, hNl, hNr, hpath⟩ := paths_fact hka hi (by omega)
      obtain ⟨R, S, hR, hS, hRS⟩ := hpath x y
      have hNm : (N.length : Int) = m := by omega
      obtain ⟨aa, ac, rfl, hac⟩ := hoa.shape
      have hc1 := new_at m (.slice aa ks.length ac) (pairsA ks) wr (by rw [pairsA_length]; exact hoa.rd) (by rw [pairsA_length]; omega)
      rw [hnA] at hc1
      have Hc1 := Lib.hid hc1
      have Hmr := Lib.hid hmr
      have HR := Lib.hid hR
      have HS := Lib.hid hS
      have HRS := Lib.hid hRS
      clear hc1 hmr hR hS hRS hap hoa hka hnA hpath
      go_wp2_with fail
      refine Hc1.out.mono ?_
      rintro e w2 ⟨p1, rfl, -, hT1, hm2⟩
      obtain ⟨t1, rfl, ht1w, hT1⟩ := hT1 rfl
      have hm02 := Hmr.out.trans hm2 (fun _ _ h => h)
      have hgb2 := hm02.heap Hgwb.out (fun h => h)
      have c0 : w2.cell? ⟨w.heap.size, 0, none⟩ = some (.int .i64 x) := cell_of hgb2 rfl
      have c1 : w2.cell? ⟨w.heap.size, 1, none⟩ = some (.int .i64 y) := cell_of hgb2 rfl
      have HT1 := Lib.hid hT1
      have Hm02 := Lib.hid hm02
      have HNr := Lib.hid hNr
      clear hT1 hm02 hNr hm2 ht1w Hc1 Hmr hgb2
      go_wp2_with fail
      go_quiet (fail)
      go_wp2_with fail
      have hT2 := HT1.out.mod ((Mod.refl (fun _ => False) w2).drewN nq)
      have hm2 := Hm02.out.drewN nq
      obtain ⟨w3, hw3⟩ : ∃ q, w2.drewN nq = q := ⟨_, rfl⟩
      rw [hw3] at hT2 hm2 ⊢
      clear c0 c1 hw3 HT1 Hm02
      refine (path_at w3 t1 N x y 7 R (by omega) HR.out hT2 (by omega) (fun l hl => Nat.le_trans (HNr.out l hl) (by omega))).mono ?_
      rintro e w4 ⟨v1, rfl, hv1, -, -, hm4⟩
      obtain ⟨b1, e1, rfl, hbe1⟩ : ∃ a c, v1 = .slice a R.length c ∧ R.length ≤ c := by obtain ⟨-, a, c, h, h2, -⟩ := hv1; exact ⟨a, c, h, h2⟩
      have hT4 := hT2.mod hm4
      have hm04 := hm2.trans hm4 (fun _ _ h => h)
      have Hv1 := Lib.hid hv1
      have HT4 := Lib.hid hT4
      have Hm04 := Lib.hid hm04
      clear hv1 hT4 hm04 hT2 hm2 hm4
      go_wp2_with fail
      refine (path_at w4 t1 N y x 7 S (by omega) HS.out HT4.out (by omega) (fun l hl => Nat.le_trans (HNr.out l hl) (by omega))).mono ?_
      rintro e w5 ⟨v2, rfl, hv2, -, -, hm5⟩
      obtain ⟨b2, e2, rfl, hbe2⟩ : ∃ a c, v2 = .slice a S.length c ∧ S.length ≤ c := by obtain ⟨-, a, c, h, h2, -⟩ := hv2; exact ⟨a, c, h, h2⟩
      have hT5 := HT4.out.mod hm5
      have hm05 := Hm04.out.trans hm5 (fun _ _ h => h)
      have hv15 := Hv1.out.mod hm5 (fun _ _ h => h)
      have hRl := path_le HR.out
      have Hv15 := Lib.hid hv15
      have Hv2 := Lib.hid hv2
      have HT5 := Lib.hid hT5
      have Hm05 := Lib.hid hm05
      clear hv15 hv2 hT5 hm05 hm5 HT4 Hm04 Hv1 HR HS
      rcases HRS.out with ⟨hbad, hR0, hS0⟩ | ⟨⟨x0, y0, xm, ym⟩, r, B, hSR, hr, hRx, hRy, hB1, hB2, hnd, hst, hin⟩
      · have hR0l : R.length = 0 := by rw [hR0]; rfl
        have hS0l : S.length = 0 := by rw [hS0]; rfl
        rw [hR0l, hS0l]
        clear HRS
        rcases hbad with h1 | h1 | h1 | h1
        · go_wp2
          all_goals (go_ret; exact ⟨rfl, Hmwb.out.trans Hm05.out (fun _ _ h => h)⟩)
        · go_wp2
          all_goals (go_ret; exact ⟨rfl, Hmwb.out.trans Hm05.out (fun _ _ h => h)⟩)
        · go_wp2
          all_goals (go_ret; exact ⟨rfl, Hmwb.out.trans Hm05.out (fun _ _ h => h)⟩)
        · go_wp2
          all_goals (go_ret; exact ⟨rfl, Hmwb.out.trans Hm05.out (fun _ _ h => h)⟩)
      · have hSl : S.length = R.length := by rw [hSR]; simp
        have hr7 : (r : Int) ≤ 7 := by omega
        rw [hSl, hr]
        rw [hSl, hr] at hbe2
        rw [hr] at hbe1
        have hbe1' : (r : Int) + 1 ≤ e1 := by omega
        have hbe2' : (r : Int) + 1 ≤ e2 := by omega
        obtain ⟨g1, o1, rfl, d1⟩ := rd_int Hv15.out hRx
        have d1l : w5.cell? ⟨g1, o1 + r, none⟩ = some (.int .i64 y) := by
          obtain ⟨g1', o1', h, d⟩ := rd_int Hv15.out hRy
          cases h; exact d
        rw [Nat.add_zero] at d1
        have HRx := Lib.hid hRx
        have HRy := Lib.hid hRy
        have Hnd := Lib.hid hnd
        have Hst := Lib.hid hst
        have Hin := Lib.hid hin
        have HSR := Lib.hid hSR
        have HSl := Lib.hid hSl
        clear hRx hRy hnd hst hin hSR hSl hbe1 hbe2
        obtain ⟨wm, hwm⟩ : ∃ wm : World, w5.alloc (.map #[] 0) = wm := ⟨_, rfl⟩
        have hmwm : Mod (fun _ => False) w5 wm := hwm ▸ (Mod.refl (fun _ => False) w5).alloc _
        have hgwm := heap_alloc_new w5 (.map #[] 0)
        rw [hwm] at hgwm
        have hzwm : wm.heap.size = w5.heap.size + 1 := by rw [← hwm]; simp
        have hMm : MapB wm w5.heap.size 0 (fun z => z ∈ R.take 0) := by
          obtain ⟨D, h1, h2⟩ := hwm ▸ MapB.made w5
          exact ⟨D, h1, fun z _ => h2 z id⟩
        have Hwm := Lib.hid hwm
        have Hmwm := Lib.hid hmwm
        have HMm := Lib.hid hMm
        clear hwm hmwm hMm hgwm hzwm
        go_wp2_with (first | (rw [show w5.alloc _ = wm from Hwm.out]) | fail)
        clear hmm d1 d1l
        go_loopw [134] (fun i wr => WayRel R r w5 i wr) (fun i _ => r + 1 - (intOf i).toNat)
        case atStart => exact ⟨0, 0, rfl, Nat.zero_le _, Nat.le_refl _, HMm.out, Hmwm.out⟩
        case round =>
          obtain ⟨k, nn, rfl, hk, hnn, hMr, hmr⟩ := hrel
          by_cases hlt : k < r + 1
          · have hlt' : (k : Int) < r + 1 := by omega
            obtain ⟨z, hz⟩ : ∃ z, R[k]? = some z := ⟨_, List.getElem?_eq_getElem (by omega)⟩
            obtain ⟨q, hq⟩ : ∃ q, q + k = r := ⟨r - k, by omega⟩
            have hSz : S[q]? = some z := HSR.out ▸ rev_at hr hq hz
            have hq' : (r : Int) - k = q := by omega
            have hz6 := Hin.out z (List.mem_of_getElem? hz)
            have hwf : (Lit.int .i64 z).wf = true := by simp only [Lit.wf, Bool.and_eq_true, decide_eq_true_eq]; exact ⟨show (-9223372036854775808 : Int) ≤ z by omega, show z ≤ 9223372036854775807 by omega⟩
            have hlook := hMr.look (nodup_take Hnd.out hz) hwf
            have hkey := Maps.keyOf_int_mk (P := Try.prog) (k := 3) (q := .i64) Try.underlying3 hwf
            have hv1r := Hv15.out.mod hmr (fun _ _ h => h)
            have d3 : wr.cell? ⟨g1, o1 + k, none⟩ = some (.int .i64 z) := by
              obtain ⟨g1', o1', h, d⟩ := rd_int hv1r hz
              cases h; exact d
            obtain ⟨g2, o2, rfl, d4⟩ := rd_int (Hv2.out.mod hmr (fun _ _ h => h)) hSz
            have hzz : (z == z) = true := beq_self_eq_true _
            have htk := take_next hz
            by_cases hk0 : k = 0
            · have hk0' : ¬ (0 : Int) < k := by omega
              obtain ⟨D, hD1, hD2⟩ := hMr
              have Hmr := Lib.hid hmr
              have Hkey := Lib.hid hkey
              have Htk := Lib.hid htk
              have Hv1r := Lib.hid hv1r
              have HD1 := Lib.hid hD1
              have HD2 := Lib.hid hD2
              have Hz := Lib.hid hz
              have HSz := Lib.hid hSz
              clear hmr hkey htk hv1r hD1 hD2 hz hSz hk0
              go_wp2_with (first | (at_mapUpdate; refine wpList_mapUpdate_own _ rfl _ _ _ 38 rfl 3 4 keyed_int Try.underlying38 _ w5.heap.size nn D rfl HD1.out (by unfold maxLen; omega) _ _ (.int .i64 z) rfl rfl Hkey.out (.lit (.bool true)) [] (plainElem_bool Try.underlying4 true) ?_; intro wu hU1 hU2; have HU1 := Lib.hid hU1; have HU2 := Lib.hid hU2; clear hU1 hU2) | fail)
              go_roundw
              case rel =>
                repeat apply Exists.intro
                refine And.intro ?_ ?_
                rotate_left
                · repeat' (first | rfl | refine And.intro ?_ ?_)
                exact ⟨k + 1, nn + 1, by go_num, hlt, by omega, by
                  obtain ⟨D2, e1, e2⟩ := MapB.put HD2.out HU1.out
                  exact ⟨D2, e1, fun z hz => e2 z (fun h => hz ((Htk.out z).1 h))⟩, Hmr.out.upon (grown_mod HU2.out) (fun b hb => .inr (by rw [hb]; exact Nat.le_refl _))⟩
              case measure => simp [intOf]; omega
            · obtain ⟨j, hj⟩ : ∃ j, j + 1 = k := ⟨k - 1, by omega⟩
              have hj' : (k : Int) - 1 = j := by omega
              have hk1 : (0 : Int) < k := by omega
              obtain ⟨y1, hy1⟩ : ∃ z, R[j]? = some z := ⟨_, List.getElem?_eq_getElem (by omega)⟩
              have d5 : wr.cell? ⟨g1, o1 + j, none⟩ = some (.int .i64 y1) := by
                obtain ⟨g1', o1', h, d⟩ := rd_int hv1r hy1
                cases h; exact d
              have hli := linked_at wr t1 N y1 z (HT5.out.mod hmr) (by omega) (fun l hl => Nat.le_trans (HNr.out l hl) (by omega))
              rw [steps_at Hst.out hy1 (by rw [hj]; exact hz)] at hli
              have Hmr := Lib.hid hmr
              have Hkey := Lib.hid hkey
              have Htk := Lib.hid htk
              have HMr := Lib.hid hMr
              have Hli := Lib.hid hli
              clear hmr hkey htk hMr hli hk0 hv1r hz hSz hy1 hj
              go_wp2_with fail
              refine Hli.out.mono ?_
              rintro e wl ⟨rfl, hml⟩
              have hml2 := Hmr.out.trans hml (fun _ _ h => h)
              obtain ⟨D, hD1, hD2⟩ := HMr.out.mod hml (fun h => h)
              have Hml2 := Lib.hid hml2
              have HD1 := Lib.hid hD1
              have HD2 := Lib.hid hD2
              clear hml2 hD1 hD2 hml Hli HMr Hmr
              go_wp2_with (first | (at_mapUpdate; refine wpList_mapUpdate_own _ rfl _ _ _ 38 rfl 3 4 keyed_int Try.underlying38 _ w5.heap.size nn D rfl HD1.out (by unfold maxLen; omega) _ _ (.int .i64 z) rfl rfl Hkey.out (.lit (.bool true)) [] (plainElem_bool Try.underlying4 true) ?_; intro wu hU1 hU2; have HU1 := Lib.hid hU1; have HU2 := Lib.hid hU2; clear hU1 hU2) | fail)
              go_roundw
              case rel =>
                repeat apply Exists.intro
                refine And.intro ?_ ?_
                rotate_left
                · repeat' (first | rfl | refine And.intro ?_ ?_)
                exact ⟨k + 1, nn + 1, by go_num, hlt, by omega, by
                  obtain ⟨D2, e1, e2⟩ := MapB.put HD2.out HU1.out
                  exact ⟨D2, e1, fun z hz => e2 z (fun h => hz ((Htk.out z).1 h))⟩, Hml2.out.upon (grown_mod HU2.out) (fun b hb => .inr (by rw [hb]; exact Nat.le_refl _))⟩
              case measure => simp [intOf]; omega
          · obtain rfl : r + 1 = k := by omega
            have HMr := Lib.hid hMr
            have Hmr := Lib.hid hmr
            clear hMr hmr
            go_wp2_with fail
            go_ret
            exact ⟨rfl, Hmwb.out.trans (Hm05.out.trans Hmr.out (fun _ _ h => h)) (fun _ _ h => h)⟩
end Go.Proofs.Ytnckccpcpndcmaa
