/-
  Package table: Out.
-/
import Derived.Test.YtloplmaekonenaaGreatDoorZg35
namespace Go.Proofs.YtloplmaekonenaaGreatDoor
set_option maxRecDepth 20000
open Go.RowKit Go.Sort

/-- A round of the loop over the places. -/
def OutA (w : World) (own C : Nat → Prop) (M : List (Int × Fil)) (td : Int) (ma mo r N : Nat) (f : Lit → Option Value) (wr : World) : Prop :=
  ∃ (left : Lit → Bool) (cnt n : Nat) (g : List UInt8 → Option Fil), KAt wr own C ma n g ∧ n + N * cnt ≤ N * N ∧ RngR wr 3 mo r f left cnt ∧ (∀ k q, g k = some q → ∃ x, x ≠ td ∧ (x, q) ∈ M ∧ keyF q = k) ∧
    (∀ x q, (x, q) ∈ M → x ≠ td → left (.int .i64 x) = false → (g (keyF q)).isSome = true) ∧ Mod (fun _ => False) w wr
/-- What is told of a key. -/
def outK (M : List (Int × Fil)) (td : Int) (k : List UInt8) : Option Fil := (allF M td k).filter fun f => !covdF (allF M td) (allK M td) k f
/-- When all places have been copied. -/
theorem outA_end {M : List (Int × Fil)} {td : Int} {g : List UInt8 → Option Fil} (hinj : ∀ p ∈ M, ∀ q ∈ M, keyF p.2 = keyF q.2 → p.2 = q.2) (hA : ∀ k q, g k = some q → ∃ x, x ≠ td ∧ (x, q) ∈ M ∧ keyF q = k)
    (hB : ∀ x q, (x, q) ∈ M → x ≠ td → (g (keyF q)).isSome = true) (k : List UInt8) : g k = allF M td k := by
  cases h1 : g k with
  | some q =>
    obtain ⟨x, hx, hm, hk⟩ := hA k q h1
    obtain ⟨r, hr⟩ := allF_has hm hx
    rw [hk] at hr
    obtain ⟨hk2, y, hy, hm2⟩ := allF_some hr
    have e : q = r := hinj _ hm _ hm2 (hk.trans hk2.symm)
    rw [hr, e]
  | none =>
    cases h2 : allF M td k with
    | none => rfl
    | some q =>
      obtain ⟨hk2, y, hy, hm2⟩ := allF_some h2
      have h3 := hB y q hm2 hy
      rw [hk2, h1] at h3
      cases h3
set_option maxHeartbeats 8000000 in
theorem tout_at (w : World) (b : Nat) (own C : Nat → Prop) (M : List (Int × Fil)) (N : Nat) (h : Tab w b own C M N) (hN : N ≤ 1000) (hinj : ∀ p ∈ M, ∀ q ∈ M, keyF p.2 = keyF q.2 → p.2 = q.2) (td : Int) (htd : (Lit.int .i64 td).wf = true) :
    Calls Tryz.prog 28 #[.pointer (some ⟨b, 0, none⟩), .int .i64 td] w (TAllPost w C (outL M td)) := by
  obtain ⟨mo, h⟩ := h
  obtain ⟨wa, hwa⟩ : ∃ wa : World, w.alloc (.map #[] 0) = wa := ⟨_, rfl⟩
  have hmwa : Mod (fun _ => False) w wa := hwa ▸ (Mod.refl (fun _ => False) w).alloc _
  have hgwa := heap_alloc_new w (.map #[] 0)
  rw [hwa] at hgwa
  have hzwa : wa.heap.size = w.heap.size + 1 := by rw [← hwa]; simp
  have ha := h.mod hmwa (fun _ _ h => h.elim)
  have b0 : wa.cell? ⟨b, 0, none⟩ = some (.map (some mo)) := cell_of ha.row rfl
  have hma : MapR wa 9 w.heap.size 0 (fun _ => none) := hwa ▸ MapR.made w 9
  obtain ⟨n, f, hf1w, hf2, hf3, hf4⟩ := h.om
  have hf1 := hf1w.mod hmwa (fun h => h)
  have hNN : N * N ≤ 1000000 := Nat.mul_le_mul hN hN
  have hmow : mo < w.heap.size := h.olow _ h.ob.2
  obtain ⟨O, hO⟩ : ∃ O, outL M td = O := ⟨_, rfl⟩
  rw [hO]
  have hz := hzwa
  have HO := Lib.hid hO
  have H := Lib.hid h
  have Ha := Lib.hid ha
  have Hinj := Lib.hid hinj
  have Htd := Lib.hid htd
  have Hwa := Lib.hid hwa
  have Hmwa := Lib.hid hmwa
  have Hgwa := Lib.hid hgwa
  have Hma := Lib.hid hma
  have Hf1 := Lib.hid hf1
  have Hf2 := Lib.hid hf2
  have Hf3 := Lib.hid hf3
  have Hf4 := Lib.hid hf4
  have Hz := Lib.hid hz
  clear hO h ha hinj htd hwa hmwa hgwa hma hf1 hf2 hf3 hf4 hz hzwa hf1w
  go_enter Tryz.func28, Tryz.ntmps28
  go_wp2_with (first | (rw [show w.alloc _ = wa from Hwa.out]) | ((at_range; refine wpList_range_R rfl _ 56 rfl 3 61 keyed_i Tryz.underlying56 mo n f rfl Hf1.out ?_; intro wF hrg hmF hzF)) | fail)
  have hrel0 : OutA w own C M td w.heap.size mo wa.heap.size N f wF := ⟨_, n, 0, fun _ => none, ⟨0, _, Hma.out.mod hmF (fun h => h), Nat.le_refl _, fun _ => trivial⟩, by rw [Nat.zero_add]; exact Nat.mul_le_mul_left _ Hf2.out, hrg, fun k q h => (by cases h), fun x q hm hx hl => (by
    have h1 := Hf3.out x
    have h2 : (f (.int .i64 x)).isSome = false := hl
    cases h3 : f (.int .i64 x) with
    | some v => rw [h3] at h2; cases h2
    | none =>
      rw [h3] at h1
      have h4 := tabF_mem H.out.nd hm
      rw [h1] at h4
      cases h4), Hmwa.out.trans hmF (fun _ _ h => h)⟩
  have Hrel0 := Lib.hid hrel0
  have Hrg := Lib.hid hrg
  have HmF := Lib.hid hmF
  clear hrel0 hrg hmF hzF
  go_frame
  go_loopw [17] (fun _ wr => OutA w own C M td w.heap.size mo wa.heap.size N f wr) (fun _ wr => wr.rangeLeft mo wa.heap.size)
  case atStart => exact Hrel0.out
  case round =>
    revert wr
    intro wl hrel
    obtain ⟨left, cnt, nn, g, hK, hnn, hrg, hA, hB, hmr⟩ := hrel
    have HK := Lib.hid hK
    have HA := Lib.hid hA
    have HB := Lib.hid hB
    have Hmr := Lib.hid hmr
    clear hK hA hB hmr
    go_wp2_with (first | ((at_next; refine wpList_next_R rfl _ rfl 3 keyed_i (Value.int .i64) (Lit.int .i64) (inv_i _ Tryz.underlying3) (in_i _ Tryz.underlying3) mo wa.heap.size f left cnt rfl hrg ?_ ?_)) | fail)
    · intro hl0
      have hg := outA_end (td := td) Hinj.out HA.out (fun x q hm hx => HB.out x q hm hx (hl0 _))
      obtain ⟨nm, fm, hm1, hm2, hm3⟩ := HK.out
      have hv : ∀ k, FilIs wl own C (fm (.string k)) (allF M td k) := fun k => by rw [← hg]; exact hm3 k
      have hnd : (onceS ((M.filter fun p => !(p.1 == td)).map fun p => keyF p.2)).Nodup := onceS_nodup _
      have hmem : ∀ k, k ∈ allK M td ↔ (fm (.string k)).isSome = true := fun k => by
        rw [allK_mem, (hv k).some, Option.isSome_iff_exists]
      have hsort := ssorted_at hm1 (by omega) hnd (fun k => by rw [← hmem k]; unfold allK; rw [riseS_mem])
      have hkeys := skeys_at (some w.heap.size) wl
      obtain ⟨w1, hw1⟩ : ∃ w1 : World, wl.alloc (.cells #[.map (some w.heap.size)] 61) = w1 := ⟨_, rfl⟩
      have hmw1 : Mod (fun _ => False) wl w1 := hw1 ▸ (Mod.refl (fun _ => False) wl).alloc _
      rw [hw1] at hsort hkeys
      rw [show riseS (onceS ((M.filter fun p => !(p.1 == td)).map fun p => keyF p.2)) = allK M td from rfl] at hsort
      obtain ⟨K, hK_⟩ : ∃ K, allK M td = K := ⟨_, rfl⟩
      rw [hK_] at hsort hmem
      have hKl : K.length ≤ 100000 := by
        rw [← hK_]
        unfold allK riseS
        rw [List.length_mergeSort]
        have h1 : ∀ l : List (List UInt8), (onceS l).length ≤ l.length := fun l => by
          induction l with
          | nil => exact Nat.le_refl _
          | cons a l ih =>
            unfold onceS
            split
            · exact Nat.le_trans ih (Nat.le_succ _)
            · exact Nat.succ_le_succ ih
        refine Nat.le_trans (h1 _) ?_
        rw [List.length_map]
        exact Nat.le_trans (List.length_filter_le _ _) (Nat.le_trans H.out.low (by omega))
      have hout : O = K.filterMap (outK M td) := by rw [← HO.out]; unfold outL outK; rw [hK_]
      have Hrg := Lib.hid hrg
      have Hl0 := Lib.hid hl0
      have Hg := Lib.hid hg
      have Hm1 := Lib.hid hm1
      have Hm2 := Lib.hid hm2
      have Hm3 := Lib.hid hm3
      have Hv := Lib.hid hv
      have Hnd := Lib.hid hnd
      have Hmem := Lib.hid hmem
      have Hsort := Lib.hid hsort
      have Hkeys := Lib.hid hkeys
      have Hw1 := Lib.hid hw1
      have Hmw1 := Lib.hid hmw1
      have HK_ := Lib.hid hK_
      have Hout := Lib.hid hout
      clear hrg hl0 hg hm1 hm2 hm3 hv hnd hmem hsort hkeys hw1 hmw1 hK_ hout
      go_wp2_with fail
      refine Hkeys.out.mono ?_
      rintro e wx ⟨rfl, hwx⟩
      obtain rfl := hwx.symm
      go_wp2_with fail
      refine Hsort.out.mono ?_
      rintro e w2 ⟨sv, rfl, hso, hsb, hm2w⟩
      obtain ⟨sa, sc, rfl, -⟩ := hso.shape
      rw [List.length_map] at hso ⊢
      have hml2 := Hmw1.out.trans hm2w (fun _ _ h => h)
      have hm02 := Hmr.out.trans hml2 (fun _ _ h => h)
      have hrel1 : AllRel w2 C K (outK M td) (.slice none 0 0) (.int .i64 ((0 : Nat) : Int)) w2 := ⟨0, [], none, 0, rfl, Nat.zero_le _, Nat.le_refl _, rfl, rfl, OwnSl.nil _ _ _, fun k hk => by simp [Value.ownBlock] at hk, fun f hf => (by cases hf), Mod.refl _ _⟩
      have Hso := Lib.hid hso
      have Hsb := Lib.hid hsb
      have Hm2w := Lib.hid hm2w
      have Hml2 := Lib.hid hml2
      have Hm02 := Lib.hid hm02
      have Hrel1 := Lib.hid hrel1
      clear hso hsb hm2w hml2 hm02 hrel1
      go_wp2_with fail
      go_loopw [8, 32] (fun ov i wr => AllRel w2 C K (outK M td) ov i wr) (fun _ i _ => K.length - (intOf i).toNat)
      case atStart => exact Hrel1.out
      case round =>
        revert wr
        intro wr hrel
        obtain ⟨j, l, oa, oc, rfl, hj, hlj, rfl, hlq, hown, hob, hfc, hmr2⟩ := hrel
        have hm0r := Hm02.out.trans hmr2 (fun _ _ h => h)
        have hmlr := Hml2.out.trans hmr2 (fun _ _ h => h)
        by_cases hlt : j < K.length
        · have hlt' : (j : Int) < K.length := by omega
          obtain ⟨k, hkj⟩ : ∃ k, K[j]? = some k := ⟨_, List.getElem?_eq_getElem hlt⟩
          have hkm := List.mem_of_getElem? hkj
          have hks := (Hmem.out k).1 hkm
          have hvr := fun x => (Hv.out x).mod hmlr (fun _ _ h => h.elim)
          obtain ⟨fr, hfv, hfq, hfr⟩ := fil_fr (hvr k) (fun h => by have h1 := (Hv.out k).some; rw [hks, h] at h1; cases h1)
          obtain ⟨hqk, y0, hy0, hqm⟩ := allF_some hfq
          have hwfq : ∀ x q, allF M td x = some q → okQ q := fun x q hq => by
            obtain ⟨-, y, -, h2⟩ := allF_some hq
            exact ⟨(H.out.wf _ h2).2.1, (H.out.wf _ h2).2.2, H.out.sc _ h2⟩
          have hkw : k.length ≤ maxLen := by
            have h3 := hwfq k _ hfq
            have h4 := filPrt_len fr.fil.1 fr.fil.2 h3.2.1
            rw [show filPrt fr.fil.1 fr.fil.2 = k from hqk] at h4
            have h5 := h3.1
            have h6 := h3.2.2
            unfold maxLen
            omega
          have hmr1 := Hm1.out.mod hmlr (fun h => h)
          have hcv := covered_at wr own C w.heap.size nm fm (allF M td) hmr1 hvr hwfq k hkw fr.fil hfq K (fun x => by rw [Hmem.out x, (Hv.out x).some])
          obtain ⟨B, hB2⟩ : ∃ B, covdF (allF M td) K k fr.fil = B := ⟨_, rfl⟩
          rw [hB2] at hcv
          have hoK : outK M td k = if B = true then none else some fr.fil := by
            unfold outK
            rw [hfq, HK_.out, ← hB2]
            cases hc : covdF (allF M td) K k fr.fil <;> simp [hc]
          obtain ⟨g2, off, rfl, ck⟩ := rd_one (Hso.out.rd.mod hmr2 (fun _ _ h => h)) hkj
          have ck' : wr.cell? ⟨g2, off + j, none⟩ = some (.string (str k)) := ck
          have Hkj := Lib.hid hkj
          have Hkm := Lib.hid hkm
          have Hks := Lib.hid hks
          have Hvr := Lib.hid hvr
          have Hfv := Lib.hid hfv
          have Hfq := Lib.hid hfq
          have Hfr := Lib.hid hfr
          have Hqk := Lib.hid hqk
          have Hqm := Lib.hid hqm
          have Hwfq := Lib.hid hwfq
          have Hmr1 := Lib.hid hmr1
          have Hcv := Lib.hid hcv
          have HB2 := Lib.hid hB2
          have HoK := Lib.hid hoK
          have Ck := Lib.hid ck
          have Hown := Lib.hid hown
          have Hob := Lib.hid hob
          have Hfc := Lib.hid hfc
          have Hmr2 := Lib.hid hmr2
          have Hm0r := Lib.hid hm0r
          have Hmlr := Lib.hid hmlr
          have Hlq := Lib.hid hlq
          have Hkw := Lib.hid hkw
          clear hkj hkm hks hvr hfv hfq hfr hqk hqm hwfq hmr1 hcv hB2 hoK ck hown hob hfc hmr2 hm0r hmlr hlq hkw
          go_wp2_with fail
          refine Hcv.out.mono ?_
          rintro e w4 ⟨rfl, hm4⟩
          have hm24 := Hmr2.out.trans hm4 (fun _ _ h => h)
          have hm04 := Hm0r.out.trans hm4 (fun _ _ h => h)
          have hml4 := Hmlr.out.trans hm4 (fun _ _ h => h)
          have hown4 := Hown.out.mod hm4 (fun _ _ h => h)
          have hfc4 : ∀ f ∈ l, FrC w4 C f := fun f hf => (Hfc.out f hf).mod hm4 (fun _ _ h => h.elim)
          cases B with
          | true =>
            have hnx : l.map Fr.fil = (K.take (j + 1)).filterMap (outK M td) := by
              rw [List.take_add_one, Hkj.out, List.filterMap_append, ← Hlq.out, Option.toList_some, List.filterMap_cons, HoK.out]
              simp
            have Hm4 := Lib.hid hm4
            have Hm24 := Lib.hid hm24
            have Hm04 := Lib.hid hm04
            have Hml4 := Lib.hid hml4
            have Hown4 := Lib.hid hown4
            have Hfc4 := Lib.hid hfc4
            have Hnx := Lib.hid hnx
            clear hm4 hm24 hm04 hml4 hown4 hfc4 hnx
            go_wp2_with fail
            go_roundw
            case rel => exact ⟨j + 1, l, oa, oc, by go_num, hlt, by omega, rfl, Hnx.out, Hown4.out, Hob.out, Hfc4.out, Hm24.out⟩
            case measure => simp [intOf]; omega
          | false =>
            have hnx : (l ++ [fr]).map Fr.fil = (K.take (j + 1)).filterMap (outK M td) := by
              rw [List.take_add_one, Hkj.out, List.filterMap_append, ← Hlq.out, List.map_append, Option.toList_some]
              congr 1
              rw [List.filterMap_cons, HoK.out]
              rfl
            have hli := (Hm1.out.mod hml4 (fun h => h)).look keyed_s Tryz.underlying61 (zero_fil w4) (key_s k Hkw.out)
            rw [Hfv.out] at hli
            have hli' : (Instr.lookup 61 (.map (some w.heap.size)) (.string (str k)) false).run Tryz.prog w4 = .ok (.agg #[.string fr.sc, .slice fr.a fr.cs.length fr.c]) w4 := hli
            obtain ⟨wz, hwz⟩ : ∃ wz : World, w4.alloc (.cells #[.string fr.sc, .slice fr.a fr.cs.length fr.c] 29) = wz := ⟨_, rfl⟩
            have hmwz : Mod (fun _ => False) w4 wz := hwz ▸ (Mod.refl (fun _ => False) w4).alloc _
            have hgwz := heap_alloc_new w4 (.cells #[.string fr.sc, .slice fr.a fr.cs.length fr.c] 29)
            rw [hwz] at hgwz
            have hzwz : wz.heap.size = w4.heap.size + 1 := by rw [← hwz]; simp
            have hrz : RdSl wz 2 (.slice (some ⟨w4.heap.size, 0, none⟩) 1 1) 1 [.string fr.sc, .slice fr.a fr.cs.length fr.c] := hwz ▸ RdSl.one w4 [.string fr.sc, .slice fr.a fr.cs.length fr.c] 29 rfl
            have hone : ∀ u ∈ ([.string fr.sc, .slice fr.a fr.cs.length fr.c] : List Value), u.oneCell' = true := fun u hu => List.all_eq_true.1 (show ([.string fr.sc, .slice fr.a fr.cs.length fr.c] : List Value).all (·.oneCell') = true from rfl) u hu
            have hoz := hown4.mod hmwz (fun _ _ h => h)
            have hm2z := hm24.trans hmwz (fun _ _ h => h)
            have hfcz : ∀ f ∈ l ++ [fr], FrC wz C f := fun f hf => by
              rcases List.mem_append.1 hf with hf | hf
              · exact (hfc4 f hf).mod hmwz (fun _ _ h => h.elim)
              · obtain rfl : f = fr := by simpa using hf
                exact (Hfr.out.mod hm4 (fun _ _ h => h.elim)).mod hmwz (fun _ _ h => h.elim)
            have Hnx := Lib.hid hnx
            have Hli := Lib.hid hli
            have Hwz := Lib.hid hwz
            have Hmwz := Lib.hid hmwz
            have Hgwz := Lib.hid hgwz
            have Hrz := Lib.hid hrz
            have Hone := Lib.hid hone
            have Hoz := Lib.hid hoz
            have Hm2z := Lib.hid hm2z
            have Hfcz := Lib.hid hfcz
            have Hm4 := Lib.hid hm4
            have Hm24 := Lib.hid hm24
            have Hm04 := Lib.hid hm04
            have Hml4 := Lib.hid hml4
            have Hown4 := Lib.hid hown4
            have Hfc4 := Lib.hid hfc4
            clear hnx hli hwz hmwz hgwz hrz hone hoz hm2z hfcz hm4 hm24 hm04 hml4 hown4 hfc4 hzwz
            go_wp2_with (first | ((with_reducible refine wpList_build_one_lit 45 (.tmp 43) ?_); refine ⟨29, 2, Tryz.underlying45, by kernel_rfl, by kernel_rfl, by decide, by decide, [.string fr.sc, .slice fr.a fr.cs.length fr.c], rfl, rfl, ?_⟩; rw [Hwz.out]) | ((with_reducible refine wpList_append_lit (.tmp 40) (.tmp 44) 45 ?_); refine ⟨rfl, 29, 2, 40, filsT, .slice oa l.length oc, l.length, l.flatMap Fr.cells, rfl, Hoz.out, _, 1, [.string fr.sc, .slice fr.a fr.cs.length fr.c], rfl, Hrz.out, Hone.out, by omega, by unfold maxLen; omega, ?_⟩; intro ad cap5 w5 hA; have HA := Lib.hid hA; clear hA) | fail)
            go_roundw
            case rel =>
              refine ⟨j + 1, l ++ [fr], ad, cap5, by go_num, hlt, by rw [List.length_append, List.length_singleton]; omega, by rw [List.length_append]; rfl, Hnx.out, ?_, ?_, fun f hf => (Hfcz.out f hf).mod HA.out.2.1 (fun k hk h => ?_), Hm2z.out.upon HA.out.2.1 (fun k hk => .inr (Hob.out k hk))⟩
              · rw [List.length_append, List.flatMap_append]; exact HA.out.1
              · intro k hk
                rcases HA.out.2.2 with h3 | ⟨k', h3, h4⟩
                · exact Hob.out k (h3 ▸ hk)
                · rw [h3] at hk
                  cases hk
                  have := Hm2z.out.size
                  omega
              · intro hc
                have h1 := H.out.clow _ hc
                have h2 := Hob.out k h
                have h3 := Hm02.out.size
                omega
            case measure => simp [intOf]; omega
        · obtain rfl : j = K.length := by omega
          rw [List.take_length] at hlq
          have hOl : l.map Fr.fil = O := by rw [Hout.out]; exact hlq
          have Hlq := Lib.hid hlq
          have Hown := Lib.hid hown
          have Hob := Lib.hid hob
          have Hfc := Lib.hid hfc
          have Hmr2 := Lib.hid hmr2
          have Hm0r := Lib.hid hm0r
          have Hmlr := Lib.hid hmlr
          have HOl := Lib.hid hOl
          clear hlq hown hob hfc hmr2 hm0r hmlr hOl
          go_wp2_with fail
          go_ret
          exact ⟨_, l, rfl, Hown.out, fun k hk => Nat.le_trans Hm02.out.size (Hob.out k hk), HOl.out, Hfc.out, Hm0r.out⟩
    · intro x c wu cnt' hkey hlk hfc hrg' hlt2 hmu hzu hen
      have h1 := Hf3.out x
      rw [hfc] at h1
      obtain ⟨mi, rfl, hmi, hmib, hmio, hKi⟩ := h1
      have hmlu : Mod (fun k => k = wa.heap.size) wl wu := hmu
      have hmw : Mod (fun _ => False) w wu := Hmr.out.upon hmu (fun k hk => .inr (by have h1 : k = wa.heap.size := hk; have := Hmwa.out.size; omega))
      have hle : nn + N + N * cnt' ≤ N * N := by
        have h1 : N * (cnt' + 1) ≤ N * cnt := Nat.mul_le_mul_left _ hlt2
        rw [Nat.mul_add, Nat.mul_one] at h1
        omega
      have hgb : ∀ x' q, (x', q) ∈ M → x' ≠ td → x' ≠ x → (left (.int .i64 x') && !(Lit.int .i64 x').sameKey (.int .i64 x)) = false → (g (keyF q)).isSome = true := fun x' q hm hx1 hx2 hl => by
        rw [same_i] at hl
        have e2 : (x' == x) = false := by rw [beq_eq_false_iff_ne]; exact hx2
        rw [e2, Bool.not_false, Bool.and_true] at hl
        exact HB.out x' q hm hx1 hl
      have hlow : ∀ k, C k → k < w.heap.size := H.out.clow
      have hKu : KAt wu own C w.heap.size nn g := HK.out.mod hmu (fun h => by have h1 : w.heap.size = wa.heap.size := h; have := Hz.out; omega) (fun k _ hk hc => by have h1 : k = wa.heap.size := hk; have := hlow k hc; have := Hz.out; omega)
      by_cases hx : x = td
      · have hB2 : ∀ x' q, (x', q) ∈ M → x' ≠ td → (left (.int .i64 x') && !(Lit.int .i64 x').sameKey (.int .i64 x)) = false → (g (keyF q)).isSome = true := fun x' q hm hx1 hl => hgb x' q hm hx1 (fun e => hx1 (e.trans hx)) hl
        have Hrg := Lib.hid hrg
        have Hkey := Lib.hid hkey
        have Hlk := Lib.hid hlk
        have Hfc := Lib.hid hfc
        have Hrg' := Lib.hid hrg'
        have Hmu := Lib.hid hmu
        have Hzu := Lib.hid hzu
        have HKi := Lib.hid hKi
        have Hmw := Lib.hid hmw
        have Hmlu := Lib.hid hmlu
        have HB2 := Lib.hid hB2
        have Hgb := Lib.hid hgb
        have Hlow := Lib.hid hlow
        have HKu := Lib.hid hKu
        clear hrg hkey hlk hfc hrg' hmu hzu hKi hmw hmlu hB2 hgb hlow hKu
        go_wp2_with fail
        go_roundw
        case rel => exact ⟨_, cnt', nn, g, HKu.out, by have := Nat.mul_le_mul_left N (Nat.le_of_lt hlt2); omega, Hrg'.out, HA.out, HB2.out, Hmw.out⟩
        case measure => rw [Hrg'.out.left_eq, Hrg.out.left_eq]; exact hlt2
      · obtain ⟨ni, fi, hi1, hi2, hi3⟩ := hKi
        have hmiw := hi1.lt
        have hcp := mcopy_at wu own C w.heap.size mi nn ni g (tabF M x) fi hKu (hi1.mod hmw (fun h => h)) (fun k => (hi3 k).mod hmw (fun _ _ h => h.elim)) (by omega) (fun h => Nat.lt_irrefl _ (hlow _ h)) (fun k hk => Nat.lt_of_lt_of_le (hlow k hk) hmw.size) (by omega)
        have hA2 : ∀ k q, (tabF M x k).or (g k) = some q → ∃ y, y ≠ td ∧ (y, q) ∈ M ∧ keyF q = k := fun k q hq => by
          cases ht : tabF M x k with
          | none => rw [ht] at hq; exact HA.out k q hq
          | some r =>
            rw [ht] at hq
            cases hq
            exact ⟨x, hx, (tabF_some ht).1, (tabF_some ht).2⟩
        have hB2 : ∀ x' q, (x', q) ∈ M → x' ≠ td → (left (.int .i64 x') && !(Lit.int .i64 x').sameKey (.int .i64 x)) = false → ((tabF M x (keyF q)).or (g (keyF q))).isSome = true := fun x' q hm hx1 hl => by
          by_cases e : x' = x
          · subst e
            rw [tabF_mem H.out.nd hm]
            rfl
          · rw [Option.isSome_or, hgb x' q hm hx1 e hl, Bool.or_true]
        have Hrg := Lib.hid hrg
        have Hkey := Lib.hid hkey
        have Hlk := Lib.hid hlk
        have Hfc := Lib.hid hfc
        have Hrg' := Lib.hid hrg'
        have Hmu := Lib.hid hmu
        have Hzu := Lib.hid hzu
        have Hmw := Lib.hid hmw
        have Hmlu := Lib.hid hmlu
        have HB2 := Lib.hid hB2
        have HA2 := Lib.hid hA2
        have Hgb := Lib.hid hgb
        have Hlow := Lib.hid hlow
        have HKu := Lib.hid hKu
        have Hcp := Lib.hid hcp
        have Hi1 := Lib.hid hi1
        have Hi2 := Lib.hid hi2
        have Hi3 := Lib.hid hi3
        clear hrg hkey hlk hfc hrg' hmu hzu hmw hmlu hB2 hA2 hgb hlow hKu hcp hi1 hi2 hi3
        go_wp2_with fail
        refine Hcp.out.mono ?_
        rintro e w5 ⟨rfl, hK5, hm5⟩
        have hm05 := Hmw.out.upon hm5 (fun k hk => .inr (Nat.le_of_eq (Eq.symm hk)))
        have hrg5 := Hrg'.out.mod hm5 (fun h => by have h1 : mo = w.heap.size := h; omega) (fun h => by have h1 : wa.heap.size = w.heap.size := h; have := Hz.out; omega)
        have HK5 := Lib.hid hK5
        have Hm5 := Lib.hid hm5
        have Hm05 := Lib.hid hm05
        have Hrg5 := Lib.hid hrg5
        clear hK5 hm5 hm05 hrg5
        go_wp2_with fail
        go_roundw
        case rel => exact ⟨_, cnt', nn + ni, _, HK5.out, by have := Hi2.out; omega, Hrg5.out, HA2.out, HB2.out, Hm05.out⟩
        case measure => rw [Hrg5.out.left_eq, Hrg.out.left_eq]; exact hlt2
end Go.Proofs.YtloplmaekonenaaGreatDoor
