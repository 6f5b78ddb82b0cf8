/-
  Package table: Out.
  gazettelaw14.fit.
  The plain law of a run: an index beside the map that it should be.
  The last step of every law: new blocks alone, true, the arguments as they were.
-/
import Derived.Test.YtloplmaekonenaaGreatDoorZf36
import Derived.Test.YtloplmaekonenaaGreatDoorZf35
import Derived.Test.YtloplmaekonenaaGreatDoorZf31
import Derived.Test.YtloplmaekonenaaGreatDoorRows
import Derived.WalkKit
import Derived.ProofKit
import Derived.OpenShut
import Derived.Carry
namespace Go.Proofs.YtloplmaekonenaaGreatDoor
set_option maxRecDepth 20000
open Go.RowKit Go.Sort

/-- A round of the loop over the places. -/
def OutA (w : World) (own C : Nat → Prop) (M : List (Int × Fil)) (td : Int) (ma mo r N : Nat) (f : Lit → Option Value) (wr : World) : Prop :=
  ∃ (left : Lit → Bool) (cnt n : Nat) (g : List UInt8 → Option Fil), KAt wr own C ma n g ∧ n + N * cnt ≤ N * N ∧ RngR wr 3 mo r f left cnt ∧ (∀ k q, g k = some q → ∃ x, x ≠ td ∧ (x, q) ∈ M ∧ keyF q = k) ∧
    (∀ x q, (x, q) ∈ M → x ≠ td → left (.int .i64 x) = false → (g (keyF q)).isSome = true) ∧ Mod (fun _ => False) w wr
/-- What is told of a key. -/
def outK (M : List (Int × Fil)) (td : Int) (k : List UInt8) : Option Fil := (allF M td k).filter fun f => !covdF (allF M td) (allK M td) k f
/-- When all places have been copied. -/
theorem outA_end {M : List (Int × Fil)} {td : Int} {g : List UInt8 → Option Fil} (hinj : ∀ p ∈ M, ∀ q ∈ M, keyF p.2 = keyF q.2 → p.2 = q.2) (hA : ∀ k q, g k = some q → ∃ x, x ≠ td ∧ (x, q) ∈ M ∧ keyF q = k)
    (hB : ∀ x q, (x, q) ∈ M → x ≠ td → (g (keyF q)).isSome = true) (k : List UInt8) : g k = allF M td k := by
  cases h1 : g k with
  | some q =>
    obtain ⟨x, hx, hm, hk⟩ := hA k q h1
    obtain ⟨r, hr⟩ := allF_has hm hx
    rw [hk] at hr
    obtain ⟨hk2, y, hy, hm2⟩ := allF_some hr
    have e : q = r := hinj _ hm _ hm2 (hk.trans hk2.symm)
    rw [hr, e]
  | none =>
    cases h2 : allF M td k with
    | none => rfl
    | some q =>
      obtain ⟨hk2, y, hy, hm2⟩ := allF_some h2
      have h3 := hB y q hm2 hy
      rw [hk2, h1] at h3
      cases h3
set_option maxHeartbeats 8000000 in
theorem tout_at (w : World) (b : Nat) (own C : Nat → Prop) (M : List (Int × Fil)) (N : Nat) (h : Tab w b own C M N) (hN : N ≤ 1000) (hinj : ∀ p ∈ M, ∀ q ∈ M, keyF p.2 = keyF q.2 → p.2 = q.2) (td : Int) (htd : (Lit.int .i64 td).wf = true) :
    Calls Tryz.prog 28 #[.pointer (some ⟨b, 0, none⟩), .int .i64 td] w (TAllPost w C (outL M td)) := by
  obtain ⟨mo, h⟩ := h
  obtain ⟨wa, hwa⟩ : ∃ wa : World, w.alloc (.map #[] 0) = wa := ⟨_, rfl⟩
  have hmwa : Mod (fun _ => False) w wa := hwa ▸ (Mod.refl (fun _ => False) w).alloc _
  have hgwa := heap_alloc_new w (.map #[] 0)
  rw [hwa] at hgwa
  have hzwa : wa.heap.size = w.heap.size + 1 := by rw [← hwa]; simp
  have ha := h.mod hmwa (fun _ _ h => h.elim)
  have b0 : wa.cell? ⟨b, 0, none⟩ = some (.map (some mo)) := cell_of ha.row rfl
  have hma : MapR wa 9 w.heap.size 0 (fun _ => none) := hwa ▸ MapR.made w 9
  obtain ⟨n, f, hf1w, hf2, hf3, hf4⟩ := h.om
  have hf1 := hf1w.mod hmwa (fun h => h)
  have hNN : N * N ≤ 1000000 := Nat.mul_le_mul hN hN
  have hmow : mo < w.heap.size := h.olow _ h.ob.2
  obtain ⟨O, hO⟩ : ∃ O, outL M td = O := ⟨_, rfl⟩
  rw [hO]
  have hz := hzwa
  have HO := Lib.hid hO
  have H := Lib.hid h
  have Ha := Lib.hid ha
  have Hinj := Lib.hid hinj
  have Htd := Lib.hid htd
  have Hwa := Lib.hid hwa
  have Hmwa := Lib.hid hmwa
  have Hgwa := Lib.hid hgwa
  have Hma := Lib.hid hma
  have Hf1 := Lib.hid hf1
  have Hf2 := Lib.hid hf2
  have Hf3 := Lib.hid hf3
  have Hf4 := Lib.hid hf4
  have Hz := Lib.hid hz
  clear hO h ha hinj htd hwa hmwa hgwa hma hf1 hf2 hf3 hf4 hz hzwa hf1w
  go_enter Tryz.func28, Tryz.ntmps28
  go_wp2_with (first | (rw [show w.alloc _ = wa from Hwa.out]) | ((at_range; refine wpList_range_R rfl _ 56 rfl 3 61 keyed_i Tryz.underlying56 mo n f rfl Hf1.out ?_; intro wF hrg hmF hzF)) | fail)
  have hrel0 : OutA w own C M td w.heap.size mo wa.heap.size N f wF := ⟨_, n, 0, fun _ => none, ⟨0, _, Hma.out.mod hmF (fun h => h), Nat.le_refl _, fun _ => trivial⟩, by rw [Nat.zero_add]; exact Nat.mul_le_mul_left _ Hf2.out, hrg, fun k q h => (by cases h), fun x q hm hx hl => (by
    have h1 := Hf3.out x
    have h2 : (f (.int .i64 x)).isSome = false := hl
    cases h3 : f (.int .i64 x) with
    | some v => rw [h3] at h2; cases h2
    | none =>
      rw [h3] at h1
      have h4 := tabF_mem H.out.nd hm
      rw [h1] at h4
      cases h4), Hmwa.out.trans hmF (fun _ _ h => h)⟩
  have Hrel0 := Lib.hid hrel0
  have Hrg := Lib.hid hrg
  have HmF := Lib.hid hmF
  clear hrel0 hrg hmF hzF
  go_frame
  go_loopw [17] (fun _ wr => OutA w own C M td w.heap.size mo wa.heap.size N f wr) (fun _ wr => wr.rangeLeft mo wa.heap.size)
  case atStart => exact Hrel0.out
  case round =>
    revert wr
    intro wl hrel
    obtain ⟨left, cnt, nn, g, hK, hnn, hrg, hA, hB, hmr⟩ := hrel
    have HK := Lib.hid hK
    have HA := Lib.hid hA
    have HB := Lib.hid hB
    have Hmr := Lib.hid hmr
    clear hK hA hB hmr
    go_wp2_with (first | ((at_next; refine wpList_next_R rfl _ rfl 3 keyed_i (Value.int .i64) (Lit.int .i64) (inv_i _ Tryz.underlying3) (in_i _ Tryz.underlying3) mo wa.heap.size f left cnt rfl hrg ?_ ?_)) | fail)
    · intro hl0
      have hg := outA_end (td := td) Hinj.out HA.out (fun x q hm hx => HB.out x q hm hx (hl0 _))
      obtain ⟨nm, fm, hm1, hm2, hm3⟩ := HK.out
      have hv : ∀ k, FilIs wl own C (fm (.string k)) (allF M td k) := fun k => by rw [← hg]; exact hm3 k
      have hnd : (onceS ((M.filter fun p => !(p.1 == td)).map fun p => keyF p.2)).Nodup := onceS_nodup _
      have hmem : ∀ k, k ∈ allK M td ↔ (fm (.string k)).isSome = true := fun k => by
        rw [allK_mem, (hv k).some, Option.isSome_iff_exists]
      have hsort := ssorted_at hm1 (by omega) hnd (fun k => by rw [← hmem k]; unfold allK; rw [riseS_mem])
      have hkeys := skeys_at (some w.heap.size) wl
      obtain ⟨w1, hw1⟩ : ∃ w1 : World, wl.alloc (.cells #[.map (some w.heap.size)] 61) = w1 := ⟨_, rfl⟩
      have hmw1 : Mod (fun _ => False) wl w1 := hw1 ▸ (Mod.refl (fun _ => False) wl).alloc _
      rw [hw1] at hsort hkeys
      rw [show riseS (onceS ((M.filter fun p => !(p.1 == td)).map fun p => keyF p.2)) = allK M td from rfl] at hsort
      obtain ⟨K, hK_⟩ : ∃ K, allK M td = K := ⟨_, rfl⟩
      rw [hK_] at hsort hmem
      have hKl : K.length ≤ 100000 := by
        rw [← hK_]
        unfold allK riseS
        rw [List.length_mergeSort]
        have h1 : ∀ l : List (List UInt8), (onceS l).length ≤ l.length := fun l => by
          induction l with
          | nil => exact Nat.le_refl _
          | cons a l ih =>
            unfold onceS
            split
            · exact Nat.le_trans ih (Nat.le_succ _)
            · exact Nat.succ_le_succ ih
        refine Nat.le_trans (h1 _) ?_
        rw [List.length_map]
        exact Nat.le_trans (List.length_filter_le _ _) (Nat.le_trans H.out.low (by omega))
      have hout : O = K.filterMap (outK M td) := by rw [← HO.out]; unfold outL outK; rw [hK_]
      have Hrg := Lib.hid hrg
      have Hl0 := Lib.hid hl0
      have Hg := Lib.hid hg
      have Hm1 := Lib.hid hm1
      have Hm2 := Lib.hid hm2
      have Hm3 := Lib.hid hm3
      have Hv := Lib.hid hv
      have Hnd := Lib.hid hnd
      have Hmem := Lib.hid hmem
      have Hsort := Lib.hid hsort
      have Hkeys := Lib.hid hkeys
      have Hw1 := Lib.hid hw1
      have Hmw1 := Lib.hid hmw1
      have HK_ := Lib.hid hK_
      have Hout := Lib.hid hout
      clear hrg hl0 hg hm1 hm2 hm3 hv hnd hmem hsort hkeys hw1 hmw1 hK_ hout
      go_wp2_with fail
      refine Hkeys.out.mono ?_
      rintro e wx ⟨rfl, hwx⟩
      obtain rfl := hwx.symm
      go_wp2_with fail
      refine Hsort.out.mono ?_
      rintro e w2 ⟨sv, rfl, hso, hsb, hm2w⟩
      obtain ⟨sa, sc, rfl, -⟩ := hso.shape
      rw [List.length_map] at hso ⊢
      have hml2 := Hmw1.out.trans hm2w (fun _ _ h => h)
      have hm02 := Hmr.out.trans hml2 (fun _ _ h => h)
      have hrel1 : AllRel w2 C K (outK M td) (.slice none 0 0) (.int .i64 ((0 : Nat) : Int)) w2 := ⟨0, [], none, 0, rfl, Nat.zero_le _, Nat.le_refl _, rfl, rfl, OwnSl.nil _ _ _, fun k hk => by simp [Value.ownBlock] at hk, fun f hf => (by cases hf), Mod.refl _ _⟩
      have Hso := Lib.hid hso
      have Hsb := Lib.hid hsb
      have Hm2w := Lib.hid hm2w
      have Hml2 := Lib.hid hml2
      have Hm02 := Lib.hid hm02
      have Hrel1 := Lib.hid hrel1
      clear hso hsb hm2w hml2 hm02 hrel1
      go_wp2_with fail
      go_loopw [8, 32] (fun ov i wr => AllRel w2 C K (outK M td) ov i wr) (fun _ i _ => K.length - (intOf i).toNat)
      case atStart => exact Hrel1.out
      case round =>
        revert wr
        intro wr hrel
        obtain ⟨j, l, oa, oc, rfl, hj, hlj, rfl, hlq, hown, hob, hfc, hmr2⟩ := hrel
        have hm0r := Hm02.out.trans hmr2 (fun _ _ h => h)
        have hmlr := Hml2.out.trans hmr2 (fun _ _ h => h)
        by_cases hlt : j < K.length
        · have hlt' : (j : Int) < K.length := by omega
          obtain ⟨k, hkj⟩ : ∃ k, K[j]? = some k := ⟨_, List.getElem?_eq_getElem hlt⟩
          have hkm := List.mem_of_getElem? hkj
          have hks := (Hmem.out k).1 hkm
          have hvr := fun x => (Hv.out x).mod hmlr (fun _ _ h => h.elim)
          obtain ⟨fr, hfv, hfq, hfr⟩ := fil_fr (hvr k) (fun h => by have h1 := (Hv.out k).some; rw [hks, h] at h1; cases h1)
          obtain ⟨hqk, y0, hy0, hqm⟩ := allF_some hfq
          have hwfq : ∀ x q, allF M td x = some q → okQ q := fun x q hq => by
            obtain ⟨-, y, -, h2⟩ := allF_some hq
            exact ⟨(H.out.wf _ h2).2.1, (H.out.wf _ h2).2.2, H.out.sc _ h2⟩
          have hkw : k.length ≤ maxLen := by
            have h3 := hwfq k _ hfq
            have h4 := filPrt_len fr.fil.1 fr.fil.2 h3.2.1
            rw [show filPrt fr.fil.1 fr.fil.2 = k from hqk] at h4
            have h5 := h3.1
            have h6 := h3.2.2
            unfold maxLen
            omega
          have hmr1 := Hm1.out.mod hmlr (fun h => h)
          have hcv := covered_at wr own C w.heap.size nm fm (allF M td) hmr1 hvr hwfq k hkw fr.fil hfq K (fun x => by rw [Hmem.out x, (Hv.out x).some])
          obtain ⟨B, hB2⟩ : ∃ B, covdF (allF M td) K k fr.fil = B := ⟨_, rfl⟩
          rw [hB2] at hcv
          have hoK : outK M td k = if B = true then none else some fr.fil := by
            unfold outK
            rw [hfq, HK_.out, ← hB2]
            cases hc : covdF (allF M td) K k fr.fil <;> simp [hc]
          obtain ⟨g2, off, rfl, ck⟩ := rd_one (Hso.out.rd.mod hmr2 (fun _ _ h => h)) hkj
          have ck' : wr.cell? ⟨g2, off + j, none⟩ = some (.string (str k)) := ck
          have Hkj := Lib.hid hkj
          have Hkm := Lib.hid hkm
          have Hks := Lib.hid hks
          have Hvr := Lib.hid hvr
          have Hfv := Lib.hid hfv
          have Hfq := Lib.hid hfq
          have Hfr := Lib.hid hfr
          have Hqk := Lib.hid hqk
          have Hqm := Lib.hid hqm
          have Hwfq := Lib.hid hwfq
          have Hmr1 := Lib.hid hmr1
          have Hcv := Lib.hid hcv
          have HB2 := Lib.hid hB2
          have HoK := Lib.hid hoK
          have Ck := Lib.hid ck
          have Hown := Lib.hid hown
          have Hob := Lib.hid hob
          have Hfc := Lib.hid hfc
          have Hmr2 := Lib.hid hmr2
          have Hm0r := Lib.hid hm0r
          have Hmlr := Lib.hid hmlr
          have Hlq := Lib.hid hlq
          have Hkw := Lib.hid hkw
          clear hkj hkm hks hvr hfv hfq hfr hqk hqm hwfq hmr1 hcv hB2 hoK ck hown hob hfc hmr2 hm0r hmlr hlq hkw
          go_wp2_with fail
          refine Hcv.out.mono ?_
          rintro e w4 ⟨rfl, hm4⟩
          have hm24 := Hmr2.out.trans hm4 (fun _ _ h => h)
          have hm04 := Hm0r.out.trans hm4 (fun _ _ h => h)
          have hml4 := Hmlr.out.trans hm4 (fun _ _ h => h)
          have hown4 := Hown.out.mod hm4 (fun _ _ h => h)
          have hfc4 : ∀ f ∈ l, FrC w4 C f := fun f hf => (Hfc.out f hf).mod hm4 (fun _ _ h => h.elim)
          cases B with
          | true =>
            have hnx : l.map Fr.fil = (K.take (j + 1)).filterMap (outK M td) := by
              rw [List.take_add_one, Hkj.out, List.filterMap_append, ← Hlq.out, Option.toList_some, List.filterMap_cons, HoK.out]
              simp
            have Hm4 := Lib.hid hm4
            have Hm24 := Lib.hid hm24
            have Hm04 := Lib.hid hm04
            have Hml4 := Lib.hid hml4
            have Hown4 := Lib.hid hown4
            have Hfc4 := Lib.hid hfc4
            have Hnx := Lib.hid hnx
            clear hm4 hm24 hm04 hml4 hown4 hfc4 hnx
            go_wp2_with fail
            go_roundw
            case rel => exact ⟨j + 1, l, oa, oc, by go_num, hlt, by omega, rfl, Hnx.out, Hown4.out, Hob.out, Hfc4.out, Hm24.out⟩
            case measure => simp [intOf]; omega
          | false =>
            have hnx : (l ++ [fr]).map Fr.fil = (K.take (j + 1)).filterMap (outK M td) := by
              rw [List.take_add_one, Hkj.out, List.filterMap_append, ← Hlq.out, List.map_append, Option.toList_some]
              congr 1
              rw [List.filterMap_cons, HoK.out]
              rfl
            have hli := (Hm1.out.mod hml4 (fun h => h)).look keyed_s Tryz.underlying61 (zero_fil w4) (key_s k Hkw.out)
            rw [Hfv.out] at hli
            have hli' : (Instr.lookup 61 (.map (some w.heap.size)) (.string (str k)) false).run Tryz.prog w4 = .ok (.agg #[.string fr.sc, .slice fr.a fr.cs.length fr.c]) w4 := hli
            obtain ⟨wz, hwz⟩ : ∃ wz : World, w4.alloc (.cells #[.string fr.sc, .slice fr.a fr.cs.length fr.c] 29) = wz := ⟨_, rfl⟩
            have hmwz : Mod (fun _ => False) w4 wz := hwz ▸ (Mod.refl (fun _ => False) w4).alloc _
            have hgwz := heap_alloc_new w4 (.cells #[.string fr.sc, .slice fr.a fr.cs.length fr.c] 29)
            rw [hwz] at hgwz
            have hzwz : wz.heap.size = w4.heap.size + 1 := by rw [← hwz]; simp
            have hrz : RdSl wz 2 (.slice (some ⟨w4.heap.size, 0, none⟩) 1 1) 1 [.string fr.sc, .slice fr.a fr.cs.length fr.c] := hwz ▸ RdSl.one w4 [.string fr.sc, .slice fr.a fr.cs.length fr.c] 29 rfl
            have hone : ∀ u ∈ ([.string fr.sc, .slice fr.a fr.cs.length fr.c] : List Value), u.oneCell' = true := fun u hu => List.all_eq_true.1 (show ([.string fr.sc, .slice fr.a fr.cs.length fr.c] : List Value).all (·.oneCell') = true from rfl) u hu
            have hoz := hown4.mod hmwz (fun _ _ h => h)
            have hm2z := hm24.trans hmwz (fun _ _ h => h)
            have hfcz : ∀ f ∈ l ++ [fr], FrC wz C f := fun f hf => by
              rcases List.mem_append.1 hf with hf | hf
              · exact (hfc4 f hf).mod hmwz (fun _ _ h => h.elim)
              · obtain rfl : f = fr := by simpa using hf
                exact (Hfr.out.mod hm4 (fun _ _ h => h.elim)).mod hmwz (fun _ _ h => h.elim)
            have Hnx := Lib.hid hnx
            have Hli := Lib.hid hli
            have Hwz := Lib.hid hwz
            have Hmwz := Lib.hid hmwz
            have Hgwz := Lib.hid hgwz
            have Hrz := Lib.hid hrz
            have Hone := Lib.hid hone
            have Hoz := Lib.hid hoz
            have Hm2z := Lib.hid hm2z
            have Hfcz := Lib.hid hfcz
            have Hm4 := Lib.hid hm4
            have Hm24 := Lib.hid hm24
            have Hm04 := Lib.hid hm04
            have Hml4 := Lib.hid hml4
            have Hown4 := Lib.hid hown4
            have Hfc4 := Lib.hid hfc4
            clear hnx hli hwz hmwz hgwz hrz hone hoz hm2z hfcz hm4 hm24 hm04 hml4 hown4 hfc4 hzwz
            go_wp2_with (first | ((with_reducible refine wpList_build_one_lit 45 (.tmp 43) ?_); refine ⟨29, 2, Tryz.underlying45, by kernel_rfl, by kernel_rfl, by decide, by decide, [.string fr.sc, .slice fr.a fr.cs.length fr.c], rfl, rfl, ?_⟩; rw [Hwz.out]) | ((with_reducible refine wpList_append_lit (.tmp 40) (.tmp 44) 45 ?_); refine ⟨rfl, 29, 2, 40, filsT, .slice oa l.length oc, l.length, l.flatMap Fr.cells, rfl, Hoz.out, _, 1, [.string fr.sc, .slice fr.a fr.cs.length fr.c], rfl, Hrz.out, Hone.out, by omega, by unfold maxLen; omega, ?_⟩; intro ad cap5 w5 hA; have HA := Lib.hid hA; clear hA) | fail)
            go_roundw
            case rel =>
              refine ⟨j + 1, l ++ [fr], ad, cap5, by go_num, hlt, by rw [List.length_append, List.length_singleton]; omega, by rw [List.length_append]; rfl, Hnx.out, ?_, ?_, fun f hf => (Hfcz.out f hf).mod HA.out.2.1 (fun k hk h => ?_), Hm2z.out.upon HA.out.2.1 (fun k hk => .inr (Hob.out k hk))⟩
              · rw [List.length_append, List.flatMap_append]; exact HA.out.1
              · intro k hk
                rcases HA.out.2.2 with h3 | ⟨k', h3, h4⟩
                · exact Hob.out k (h3 ▸ hk)
                · rw [h3] at hk
                  cases hk
                  have := Hm2z.out.size
                  omega
              · intro hc
                have h1 := H.out.clow _ hc
                have h2 := Hob.out k h
                have h3 := Hm02.out.size
                omega
            case measure => simp [intOf]; omega
        · obtain rfl : j = K.length := by omega
          rw [List.take_length] at hlq
          have hOl : l.map Fr.fil = O := by rw [Hout.out]; exact hlq
          have Hlq := Lib.hid hlq
          have Hown := Lib.hid hown
          have Hob := Lib.hid hob
          have Hfc := Lib.hid hfc
          have Hmr2 := Lib.hid hmr2
          have Hm0r := Lib.hid hm0r
          have Hmlr := Lib.hid hmlr
          have HOl := Lib.hid hOl
          clear hlq hown hob hfc hmr2 hm0r hmlr hOl
          go_wp2_with fail
          go_ret
          exact ⟨_, l, rfl, Hown.out, fun k hk => Nat.le_trans Hm02.out.size (Hob.out k hk), HOl.out, Hfc.out, Hm0r.out⟩
    · intro x c wu cnt' hkey hlk hfc hrg' hlt2 hmu hzu hen
      have h1 := Hf3.out x
      rw [hfc] at h1
      obtain ⟨mi, rfl, hmi, hmib, hmio, hKi⟩ := h1
      have hmlu : Mod (fun k => k = wa.heap.size) wl wu := hmu
      have hmw : Mod (fun _ => False) w wu := Hmr.out.upon hmu (fun k hk => .inr (by have h1 : k = wa.heap.size := hk; have := Hmwa.out.size; omega))
      have hle : nn + N + N * cnt' ≤ N * N := by
        have h1 : N * (cnt' + 1) ≤ N * cnt := Nat.mul_le_mul_left _ hlt2
        rw [Nat.mul_add, Nat.mul_one] at h1
        omega
      have hgb : ∀ x' q, (x', q) ∈ M → x' ≠ td → x' ≠ x → (left (.int .i64 x') && !(Lit.int .i64 x').sameKey (.int .i64 x)) = false → (g (keyF q)).isSome = true := fun x' q hm hx1 hx2 hl => by
        rw [same_i] at hl
        have e2 : (x' == x) = false := by rw [beq_eq_false_iff_ne]; exact hx2
        rw [e2, Bool.not_false, Bool.and_true] at hl
        exact HB.out x' q hm hx1 hl
      have hlow : ∀ k, C k → k < w.heap.size := H.out.clow
      have hKu : KAt wu own C w.heap.size nn g := HK.out.mod hmu (fun h => by have h1 : w.heap.size = wa.heap.size := h; have := Hz.out; omega) (fun k _ hk hc => by have h1 : k = wa.heap.size := hk; have := hlow k hc; have := Hz.out; omega)
      by_cases hx : x = td
      · have hB2 : ∀ x' q, (x', q) ∈ M → x' ≠ td → (left (.int .i64 x') && !(Lit.int .i64 x').sameKey (.int .i64 x)) = false → (g (keyF q)).isSome = true := fun x' q hm hx1 hl => hgb x' q hm hx1 (fun e => hx1 (e.trans hx)) hl
        have Hrg := Lib.hid hrg
        have Hkey := Lib.hid hkey
        have Hlk := Lib.hid hlk
        have Hfc := Lib.hid hfc
        have Hrg' := Lib.hid hrg'
        have Hmu := Lib.hid hmu
        have Hzu := Lib.hid hzu
        have HKi := Lib.hid hKi
        have Hmw := Lib.hid hmw
        have Hmlu := Lib.hid hmlu
        have HB2 := Lib.hid hB2
        have Hgb := Lib.hid hgb
        have Hlow := Lib.hid hlow
        have HKu := Lib.hid hKu
        clear hrg hkey hlk hfc hrg' hmu hzu hKi hmw hmlu hB2 hgb hlow hKu
        go_wp2_with fail
        go_roundw
        case rel => exact ⟨_, cnt', nn, g, HKu.out, by have := Nat.mul_le_mul_left N (Nat.le_of_lt hlt2); omega, Hrg'.out, HA.out, HB2.out, Hmw.out⟩
        case measure => rw [Hrg'.out.left_eq, Hrg.out.left_eq]; exact hlt2
      · obtain ⟨ni, fi, hi1, hi2, hi3⟩ := hKi
        have hmiw := hi1.lt
        have hcp := mcopy_at wu own C w.heap.size mi nn ni g (tabF M x) fi hKu (hi1.mod hmw (fun h => h)) (fun k => (hi3 k).mod hmw (fun _ _ h => h.elim)) (by omega) (fun h => Nat.lt_irrefl _ (hlow _ h)) (fun k hk => Nat.lt_of_lt_of_le (hlow k hk) hmw.size) (by omega)
        have hA2 : ∀ k q, (tabF M x k).or (g k) = some q → ∃ y, y ≠ td ∧ (y, q) ∈ M ∧ keyF q = k := fun k q hq => by
          cases ht : tabF M x k with
          | none => rw [ht] at hq; exact HA.out k q hq
          | some r =>
            rw [ht] at hq
            cases hq
            exact ⟨x, hx, (tabF_some ht).1, (tabF_some ht).2⟩
        have hB2 : ∀ x' q, (x', q) ∈ M → x' ≠ td → (left (.int .i64 x') && !(Lit.int .i64 x').sameKey (.int .i64 x)) = false → ((tabF M x (keyF q)).or (g (keyF q))).isSome = true := fun x' q hm hx1 hl => by
          by_cases e : x' = x
          · subst e
            rw [tabF_mem H.out.nd hm]
            rfl
          · rw [Option.isSome_or, hgb x' q hm hx1 e hl, Bool.or_true]
        have Hrg := Lib.hid hrg
        have Hkey := Lib.hid hkey
        have Hlk := Lib.hid hlk
        have Hfc := Lib.hid hfc
        have Hrg' := Lib.hid hrg'
        have Hmu := Lib.hid hmu
        have Hzu := Lib.hid hzu
        have Hmw := Lib.hid hmw
        have Hmlu := Lib.hid hmlu
        have HB2 := Lib.hid hB2
        have HA2 := Lib.hid hA2
        have Hgb := Lib.hid hgb
        have Hlow := Lib.hid hlow
        have HKu := Lib.hid hKu
        have Hcp := Lib.hid hcp
        have Hi1 := Lib.hid hi1
        have Hi2 := Lib.hid hi2
        have Hi3 := Lib.hid hi3
        clear hrg hkey hlk hfc hrg' hmu hzu hmw hmlu hB2 hA2 hgb hlow hKu hcp hi1 hi2 hi3
        go_wp2_with fail
        refine Hcp.out.mono ?_
        rintro e w5 ⟨rfl, hK5, hm5⟩
        have hm05 := Hmw.out.upon hm5 (fun k hk => .inr (Nat.le_of_eq (Eq.symm hk)))
        have hrg5 := Hrg'.out.mod hm5 (fun h => by have h1 : mo = w.heap.size := h; omega) (fun h => by have h1 : wa.heap.size = w.heap.size := h; have := Hz.out; omega)
        have HK5 := Lib.hid hK5
        have Hm5 := Lib.hid hm5
        have Hm05 := Lib.hid hm05
        have Hrg5 := Lib.hid hrg5
        clear hK5 hm5 hm05 hrg5
        go_wp2_with fail
        go_roundw
        case rel => exact ⟨_, cnt', nn + ni, _, HK5.out, by have := Hi2.out; omega, Hrg5.out, HA2.out, HB2.out, Hm05.out⟩
        case measure => rw [Hrg5.out.left_eq, Hrg.out.left_eq]; exact hlt2
end Go.Proofs.YtloplmaekonenaaGreatDoor

namespace Go.Proofs.YtloplmaekonenaaGreatDoor
set_option maxRecDepth 20000
open Go.RowKit

instance decV : DecidableEq V := fun a b => decidable_of_iff (a.kind = b.kind ∧ a.int = b.int ∧ a.num = b.num ∧ a.text = b.text ∧ a.yes = b.yes) ⟨fun h => by cases a; cases b; simp_all, fun h => by cases h; simp⟩
instance decC : DecidableEq Cnd := fun a b => decidable_of_iff (a.name = b.name ∧ a.op = b.op ∧ a.v = b.v) ⟨fun h => by cases a; cases b; simp_all, fun h => by cases h; simp⟩
def cX (n : Int) : Cnd := ⟨⟨#[120]⟩, 4, ⟨0, n, 0, ⟨#[]⟩, false⟩⟩
def fitM : List (Int × Fil) := [(1, (⟨#[]⟩, [cX 3])), (2, (⟨#[]⟩, [cX 5]))]
theorem fit14_n3 : normC [cX 3] = [cX 3] := by decide +kernel
theorem fit14_n5 : normC [cX 5] = [cX 5] := by decide +kernel
theorem riseS_of {L : List (List UInt8)} (h : L.Pairwise fun a b => leB a b = true) : riseS L = L := List.mergeSort_of_pairwise h
theorem fit14_k0 : allK fitM 0 = [keyF (⟨#[]⟩, [cX 3]), keyF (⟨#[]⟩, [cX 5])] := by
  unfold allK
  rw [show onceS ((fitM.filter fun p => !(p.1 == 0)).map fun p => keyF p.2) = [keyF (⟨#[]⟩, [cX 3]), keyF (⟨#[]⟩, [cX 5])] by decide +kernel]
  exact riseS_of (by decide +kernel)
theorem fit14_o0 : outL fitM 0 = [(⟨#[]⟩, [cX 3])] := by
  unfold outL
  rw [fit14_k0]
  decide +kernel
theorem fit14_k1 : allK fitM 1 = [keyF (⟨#[]⟩, [cX 5])] := by
  unfold allK
  rw [show onceS ((fitM.filter fun p => !(p.1 == 1)).map fun p => keyF p.2) = [keyF (⟨#[]⟩, [cX 5])] by decide +kernel]
  exact riseS_of (by decide +kernel)
theorem fit14_o1 : (outL fitM 1).length = 1 := by
  unfold outL
  rw [fit14_k1]
  decide +kernel
theorem fit14_t1 : tabF [(1, (⟨#[]⟩, [cX 3]))] 2 (keyF (⟨#[]⟩, [cX 5])) = none := by decide +kernel
theorem fit14_inj : ∀ p ∈ fitM, ∀ q ∈ fitM, keyF p.2 = keyF q.2 → p.2 = q.2 := by decide +kernel
theorem fit14_p : keyF (⟨#[]⟩, [cX 3]) = [58, 32, 120, 32, 62, 32, 51] := by decide +kernel
theorem cX_fits {n : Int} (h : 0 ≤ n ∧ n ≤ 5) : ∀ c ∈ [cX n], c.fits := fun c hc => by
  obtain rfl : c = cX n := by simpa using hc
  exact ⟨⟨⟨show (-9223372036854775808 : Int) ≤ n by omega, show n ≤ (9223372036854775807 : Int) by omega⟩, (by decide : (0 : Nat) < 2 ^ 64), (by decide : (0 : Nat) ≤ 1000000)⟩, (by decide : (1 : Nat) ≤ 1000000)⟩
/-- What the literal gives. -/
def FitX (w : World) (n : Int) (e : Ending) (w' : World) : Prop := ∃ v, e = .returned (.agg #[.string ⟨#[]⟩, v]) ∧ RdSl w' 7 v 1 (cnds [cX n]) ∧ Mod (fun _ => False) w w'
set_option maxHeartbeats 4000000 in
theorem fitx_at (w : World) (n : Int) : Calls Tryz.prog 54 #[.int .i64 n] w (FitX w n) := by
  obtain ⟨wa, hwa⟩ : ∃ wa : World, w.alloc (.cells #[.string ⟨#[]⟩, .slice none 0 0] 29) = wa := ⟨_, rfl⟩
  have hmwa : Mod (fun _ => False) w wa := hwa ▸ (Mod.refl (fun _ => False) w).alloc _
  have hgwa := heap_alloc_new w (.cells #[.string ⟨#[]⟩, .slice none 0 0] 29)
  rw [hwa] at hgwa
  have hzwa : wa.heap.size = w.heap.size + 1 := by rw [← hwa]; simp
  obtain ⟨wb, hwb⟩ : ∃ wb : World, wa.alloc (.cells (cX n).cells.toArray 81) = wb := ⟨_, rfl⟩
  have hmwb : Mod (fun _ => False) wa wb := hwb ▸ (Mod.refl (fun _ => False) wa).alloc _
  have hgwb := heap_alloc_new wa (.cells (cX n).cells.toArray 81)
  rw [hwb] at hgwb
  have hzwb : wb.heap.size = wa.heap.size + 1 := by rw [← hwb]; simp
  have hrz : RdSl wb 7 (.slice (some ⟨wa.heap.size, 0, none⟩) 1 1) 1 (cX n).cells := hwb ▸ RdSl.one wa (cX n).cells 81 rfl
  have hgab := hmwb.heap hgwa (fun h => h)
  have Hwa := Lib.hid hwa
  have Hmwa := Lib.hid hmwa
  have Hgwa := Lib.hid hgwa
  have Hwb := Lib.hid hwb
  have Hmwb := Lib.hid hmwb
  have Hgwb := Lib.hid hgwb
  have Hrz := Lib.hid hrz
  have Hgab := Lib.hid hgab
  clear hwa hmwa hgwa hwb hmwb hgwb hrz hgab hzwa hzwb
  go_enter Tryz.func54, Tryz.ntmps54
  go_wp2_with (first | (rw [show w.alloc _ = wa from Hwa.out]) | ((with_reducible refine wpList_build_one_lit 27 (.tmp 5) ?_); refine ⟨81, 7, Tryz.underlying27, by kernel_rfl, by kernel_rfl, by decide, by decide, (cX n).cells, rfl, rfl, ?_⟩; rw [Hwb.out]) | ((with_reducible refine wpList_store_row_lit 29 (.tmp 2) (.tmp 7) ?_); refine ⟨w.heap.size, rfl, _, _, Hgab.out, [.string ⟨#[]⟩, .slice (some ⟨wa.heap.size, 0, none⟩) 1 1], rfl, rfl, by kernel_rfl, rfl, ?_⟩; intro w4 h4 hm4; have f0 : w4.cell? ⟨w.heap.size, 0, none⟩ = some (.string ⟨#[]⟩) := cell_of h4 rfl; have f1 : w4.cell? ⟨w.heap.size, 1, none⟩ = some (.slice (some ⟨wa.heap.size, 0, none⟩) 1 1) := cell_of h4 rfl; have H4 := Lib.hid h4; have Hm4 := Lib.hid hm4; clear h4 hm4) | fail)
  have hm24 : Mod (fun _ => False) w w4 := ((Hmwa.out.trans Hmwb.out (fun _ _ h => h)).upon Hm4.out (fun k hk => .inr (Nat.le_of_eq (Eq.symm hk))))
  have hr4 : RdSl w4 7 (.slice (some ⟨wa.heap.size, 0, none⟩) 1 1) 1 (cX n).cells := Hrz.out.mod Hm4.out (fun k hk h => by
    have h1 : k = w.heap.size := h
    have h2 : wa.heap.size = k := Option.some.inj hk
    have h3 := (Array.getElem?_eq_some_iff.1 Hgwa.out).1
    omega)
  have Hm24 := Lib.hid hm24
  have Hr4 := Lib.hid hr4
  clear hm24 hr4
  refine bodyPost_cell rfl w.heap.size rfl [.string ⟨#[]⟩, .slice (some ⟨wa.heap.size, 0, none⟩) 1 1] (CellsAt.row H4.out) (by kernel_rfl) (by kernel_rfl) rfl ⟨_, rfl, Hr4.out, Hm24.out⟩

theorem one_of {l : List Fr} {q : Fil} (h : l.map Fr.fil = [q]) : ∃ fr, l = [fr] ∧ fr.fil = q := by
  cases l with
  | nil => cases h
  | cons a l =>
    cases l with
    | nil => exact ⟨a, rfl, by simpa using h⟩
    | cons b l => simp at h
set_option maxHeartbeats 8000000 in
theorem fit14_at (w0 w : World) (hl : Laid w0 w) : Calls Tryz.prog 23 #[] w fun e w' => e = .returned (.bool true) ∧ Mod (fun _ => False) w w' := by
  have hnew := tnew_at w
  have Hl := Lib.hid hl
  have Hnew := Lib.hid hnew
  clear hl hnew
  go_enter Tryz.func23, Tryz.ntmps23
  go_wp2_with fail
  refine Hnew.out.mono ?_
  rintro e w1 ⟨b, own, rfl, ht, hown, hm1⟩
  have hx1 := fitx_at w1 3
  have Ht := Lib.hid ht
  have Hown := Lib.hid hown
  have Hm1 := Lib.hid hm1
  have Hx1 := Lib.hid hx1
  clear ht hown hm1 hx1
  go_wp2_with fail
  refine Hx1.out.mono ?_
  rintro e w2 ⟨v2, rfl, hr2, hm2⟩
  have hm02 := Hm1.out.trans hm2 (fun _ _ h => h)
  have hadd := tadd_at w0 w2 (Hl.out.mod0 hm02) b own _ [] 0 (Ht.out.mod0 hm2 (fun _ _ h => h)) (by decide) (fun k hk => Nat.le_trans Hl.out.size (Hown.out k hk)) 1 (by decide) ⟨#[]⟩ v2 [cX 3] hr2 (by decide) (cX_fits (by decide)) (by decide)
  have Hr2 := Lib.hid hr2
  have Hm2 := Lib.hid hm2
  have Hm02 := Lib.hid hm02
  have Hadd := Lib.hid hadd
  clear hr2 hm2 hm02 hadd
  go_wp2_with fail
  refine Hadd.out.mono ?_
  rintro e w3 (⟨h, -⟩ | ⟨-, rfl, own3, C3, ht3, ho1, ho2, ho3, hm3⟩)
  · exact absurd rfl h
  rw [fit14_n3] at ht3
  have hm03 : Mod (fun _ => False) w w3 := Hm02.out.upon hm3 (fun k hk => .inr (Hown.out k hk))
  have hown3 : ∀ k, own3 k → w.heap.size ≤ k := fun k hk => (ho2 k hk).elim (Hown.out k) (fun h => Nat.le_trans Hm02.out.size h)
  have hx2 := fitx_at w3 5
  have Ht3 := Lib.hid ht3
  have Ho1 := Lib.hid ho1
  have Ho2 := Lib.hid ho2
  have Ho3 := Lib.hid ho3
  have Hm3 := Lib.hid hm3
  have Hm03 := Lib.hid hm03
  have Hown3 := Lib.hid hown3
  have Hx2 := Lib.hid hx2
  clear ht3 ho1 ho2 ho3 hm3 hm03 hown3 hx2
  go_wp2_with fail
  refine Hx2.out.mono ?_
  rintro e w4 ⟨v4, rfl, hr4, hm4⟩
  have hm04 := Hm03.out.trans hm4 (fun _ _ h => h)
  have hadd2 := tadd_at w0 w4 (Hl.out.mod0 hm04) b own3 C3 _ 1 (Ht3.out.mod0 hm4 (fun _ _ h => h)) (by decide) (fun k hk => Nat.le_trans Hl.out.size (Hown3.out k hk)) 2 (by decide) ⟨#[]⟩ v4 [cX 5] hr4 (by decide) (cX_fits (by decide)) (by decide)
  have Hr4 := Lib.hid hr4
  have Hm4 := Lib.hid hm4
  have Hm04 := Lib.hid hm04
  have Hadd2 := Lib.hid hadd2
  clear hr4 hm4 hm04 hadd2
  go_wp2_with fail
  refine Hadd2.out.mono ?_
  rintro e w5 (⟨h, -⟩ | ⟨-, rfl, own5, C5, ht5, ho1, ho2, ho3, hm5⟩)
  · exact absurd (by rw [fit14_n5]; exact fit14_t1) h
  rw [fit14_n5] at ht5
  have ht5' : Tab w5 b own5 C5 fitM 2 := ht5
  have hm05 : Mod (fun _ => False) w w5 := Hm04.out.upon hm5 (fun k hk => .inr (Hown3.out k hk))
  have hout := tout_at w5 b own5 C5 fitM 2 ht5' (by decide) fit14_inj 0 (by decide)
  rw [fit14_o0] at hout
  have Ht5 := Lib.hid ht5
  have Ht5' := Lib.hid ht5'
  have Ho1 := Lib.hid ho1
  have Ho2 := Lib.hid ho2
  have Ho3 := Lib.hid ho3
  have Hm5 := Lib.hid hm5
  have Hm05 := Lib.hid hm05
  have Hout := Lib.hid hout
  clear ht5 ht5' ho1 ho2 ho3 hm5 hm05 hout
  go_wp2_with fail
  refine Hout.out.mono ?_
  rintro e w6 ⟨v6, l6, rfl, hv6, hb6, hl6, hf6, hm6⟩
  obtain ⟨fr, rfl, hfr⟩ := one_of hl6
  obtain ⟨sc, fa, fc, cs⟩ := fr
  obtain ⟨rfl, rfl⟩ : sc = ⟨#[]⟩ ∧ cs = [cX 3] := ⟨congrArg Prod.fst hfr, congrArg Prod.snd hfr⟩
  obtain ⟨a6, c6, rfl, -⟩ := hv6.shape
  obtain ⟨g6, o6, rfl, hc6⟩ := rd_el (f := Fr.cells) (sz := 2) (fun _ => rfl) hv6.rd (j := 0) (x := ⟨⟨#[]⟩, fa, fc, [cX 3]⟩) rfl
  have hrf := (hf6 _ (List.mem_singleton.2 rfl)).1.rd
  have hm06 := Hm05.out.trans hm6 (fun _ _ h => h)
  have hpr := fprint_at w0 w6 (Hl.out.mod0 hm06) ⟨#[]⟩ (.slice fa 1 fc) [cX 3] hrf (by decide) (by decide) (cX_fits (by decide))
  rw [show filPrt ⟨#[]⟩ [cX 3] = [58, 32, 120, 32, 62, 32, 51] from fit14_p, show str [58, 32, 120, 32, 62, 32, 51] = ⟨#[58, 32, 120, 32, 62, 32, 51]⟩ from rfl] at hpr
  have c0 : w6.cell? ⟨g6, o6, none⟩ = some (.string ⟨#[]⟩) := by have := hc6 0 _ rfl; simpa using this
  have c1 : w6.cell? ⟨g6, o6 + 1, none⟩ = some (.slice fa 1 fc) := by have := hc6 1 _ rfl; simpa using this
  have Hv6 := Lib.hid hv6
  have Hb6 := Lib.hid hb6
  have Hl6 := Lib.hid hl6
  have Hf6 := Lib.hid hf6
  have Hm6 := Lib.hid hm6
  have Hrf := Lib.hid hrf
  have Hm06 := Lib.hid hm06
  have Hpr := Lib.hid hpr
  have Hc6 := Lib.hid hc6
  have Hfr := Lib.hid hfr
  clear hv6 hb6 hl6 hf6 hm6 hrf hm06 hpr hc6 hfr
  go_wp2_with fail
  refine Hpr.out.mono ?_
  rintro e w7 ⟨rfl, hm7⟩
  have hm07 := Hm06.out.trans hm7 (fun _ _ h => h)
  have hout2 := tout_at w7 b own5 C5 fitM 2 (Ht5'.out.mod0 (Hm6.out.trans hm7 (fun _ _ h => h)) (fun _ _ h => h)) (by decide) fit14_inj 1 (by decide)
  have Hm7 := Lib.hid hm7
  have Hm07 := Lib.hid hm07
  have Hout2 := Lib.hid hout2
  clear hm7 hm07 hout2
  go_wp2_with fail
  refine Hout2.out.mono ?_
  rintro e w8 ⟨v8, l8, rfl, hv8, -, hl8, -, hm8⟩
  have hm08 := Hm07.out.trans hm8 (fun _ _ h => h)
  have hll : l8.length = 1 := by
    have h1 := congrArg List.length hl8
    rw [List.length_map, fit14_o1] at h1
    exact h1
  obtain ⟨a8, c8, rfl, -⟩ := hv8.shape
  rw [hll]
  have Hv8 := Lib.hid hv8
  have Hl8 := Lib.hid hl8
  have Hm8 := Lib.hid hm8
  have Hm08 := Lib.hid hm08
  have Hll := Lib.hid hll
  clear hv8 hl8 hm8 hm08 hll
  go_wp2_with fail
  go_ret
  exact ⟨rfl, Hm08.out⟩
end Go.Proofs.YtloplmaekonenaaGreatDoor

namespace Go.Proofs.YtloplmaekonenaaGreatDoor
set_option maxRecDepth 20000
open Go.RowKit

/-- What a list has under a number. -/
def asF {α : Type} (M : List (Int × α)) (id : Int) : Option α := (M.find? fun p => p.1 == id).map Prod.snd
/-- Without a number. -/
def asD {α : Type} (M : List (Int × α)) (id : Int) : List (Int × α) := M.filter fun p => !(p.1 == id)
theorem asF_some {α : Type} {M : List (Int × α)} {id : Int} {q : α} (h : asF M id = some q) : (id, q) ∈ M := by
  unfold asF at h
  obtain ⟨p, h1, rfl⟩ := Option.map_eq_some_iff.1 h
  have h2 := List.find?_some h1
  simp only [beq_iff_eq] at h2
  subst h2
  exact List.mem_of_find?_eq_some h1
theorem asF_none {α : Type} {M : List (Int × α)} {id : Int} (h : asF M id = none) : id ∉ M.map Prod.fst := fun hm => by
  obtain ⟨p, hp, rfl⟩ := List.mem_map.1 hm
  unfold asF at h
  rw [Option.map_eq_none_iff, List.find?_eq_none] at h
  simpa using h p hp
theorem asF_new {α : Type} {M : List (Int × α)} {id : Int} {q : α} (h : asF M id = none) (x : Int) : asF (M ++ [(id, q)]) x = if x = id then some q else asF M x := by
  unfold asF at h ⊢
  rw [List.find?_append]
  by_cases e : x = id
  · subst e
    rw [Option.map_eq_none_iff] at h
    rw [h, if_pos rfl]
    simp
  · rw [if_neg e]
    have : (id == x) = false := by rw [beq_eq_false_iff_ne]; exact fun h => e h.symm
    cases M.find? fun p => p.1 == x <;> simp [this]
theorem asF_del {α : Type} (M : List (Int × α)) (id x : Int) : asF (asD M id) x = if x = id then none else asF M x := by
  unfold asF asD
  rw [List.find?_filter]
  by_cases e : x = id
  · subst e
    rw [if_pos rfl, Option.map_eq_none_iff, List.find?_eq_none]
    intro p _
    cases (p.1 == x) <;> simp
  · rw [if_neg e]
    congr 2
    funext p
    by_cases h : p.1 = x
    · have : (p.1 == id) = false := by rw [beq_eq_false_iff_ne]; exact fun h2 => e (h.symm.trans h2)
      rw [this]
      cases (p.1 == x) <;> rfl
    · have : (p.1 == x) = false := by rw [beq_eq_false_iff_ne]; exact h
      rw [this]
      cases (!(p.1 == id)) <;> rfl
theorem asD_fst {α : Type} (M : List (Int × α)) (id : Int) : (asD M id).map Prod.fst = (M.map Prod.fst).filter fun x => !(x == id) := by
  unfold asD
  rw [List.filter_map]
  rfl
theorem asD_nodup {α : Type} {M : List (Int × α)} (h : (M.map Prod.fst).Nodup) (id : Int) : ((asD M id).map Prod.fst).Nodup := by
  rw [asD_fst]
  exact h.filter _
theorem as_nodup {α : Type} {M : List (Int × α)} (h : (M.map Prod.fst).Nodup) {id : Int} {q : α} (hq : asF M id = none) : ((M ++ [(id, q)]).map Prod.fst).Nodup := by
  rw [List.map_append, List.nodup_append]
  refine ⟨h, by simp, fun a ha b hb e => ?_⟩
  obtain rfl : b = id := by simpa using hb
  subst e
  exact asF_none hq ha
theorem asD_len {α : Type} {M : List (Int × α)} (h : (M.map Prod.fst).Nodup) {id : Int} (hq : asF M id ≠ none) : (asD M id).length + 1 = M.length := by
  have h1 : ∀ (l : List Int), l.Nodup → id ∈ l → (l.filter fun x => !(x == id)).length + 1 = l.length := fun l => by
    induction l with
    | nil => intro _ h; cases h
    | cons a l ih =>
      intro hn hm
      rw [List.nodup_cons] at hn
      rw [List.filter_cons]
      by_cases e : a = id
      · subst e
        have h2 : l.filter (fun x => !(x == a)) = l := List.filter_eq_self.2 fun x hx => by
          have : x ≠ a := fun e => hn.1 (e ▸ hx)
          simp [this]
        simp [h2]
      · have h3 : id ∈ l := (List.mem_cons.1 hm).resolve_left fun h => e h.symm
        have : (!(a == id)) = true := by simp [e]
        rw [if_pos this, List.length_cons, List.length_cons, ih hn.2 h3]
  have h2 : id ∈ M.map Prod.fst := by
    cases hf : asF M id with
    | none => exact absurd hf hq
    | some q => exact List.mem_map_of_mem (f := Prod.fst) (asF_some hf)
  have h3 := h1 _ h h2
  rw [← asD_fst, List.length_map, List.length_map] at h3
  exact h3
/-- The index of what the map has. -/
def runI (M : List (Int × Fr)) : List (Int × Fil) := M.map fun p => (p.1, (p.2.sc, normC p.2.cs))
theorem runI_F (M : List (Int × Fr)) (id : Int) : idxF (runI M) id = (asF M id).map fun x => (x.sc, normC x.cs) := by
  unfold idxF runI asF
  rw [List.find?_map, Option.map_map, Option.map_map]
  rfl
theorem runI_put (M : List (Int × Fr)) (id : Int) (x : Fr) : runI (M ++ [(id, x)]) = runI M ++ [(id, (x.sc, normC x.cs))] := by
  unfold runI
  rw [List.map_append]
  rfl
end Go.Proofs.YtloplmaekonenaaGreatDoor

namespace Go.Proofs.YtloplmaekonenaaGreatDoor
set_option maxRecDepth 20000
open Go.ChangeShapes Go.WideShapes Go.ChangeAt Go.RowKit

theorem own_knob : ownKnob Tryz.prog.godebug = none := by kernel_rfl

theorem laidOut : laidOutB Tryz.prog = true := by kernel_rfl

/-- All arguments read as they did, where nothing that was there has been written. -/
theorem trodAll_same {H : Type} {enc : TypeId × Value → H} {P : Program} (hl : laidOutB P = true) {W W' : World} (hb : Below W.heap.size W W') : ∀ {ts : List TypeId} {vs : List Value} {ds : List (DataW H)} {ps : List MemPlace}
    (_ : ts.all (fun t => P.readableRec t && decide (t < P.types.size)) = true) (_ : DataW.TrodAll enc P W 0 (fun _ => true) true ts vs ds ps) (_ : ∀ x ∈ ps, x.block < W.heap.size), DataW.TrodAll enc P W' 0 (fun b => decide (b < W.heap.size)) true ts vs ds ps
  | [], vs, ds, ps, _, h, _ => by
    obtain ⟨rfl, rfl, rfl⟩ := trodAll_nil h
    exact trodAll_mk0
  | t :: ts, vs, ds, ps, hr, h, hlt => by
    obtain ⟨v, vs', d, ds', p, q, rfl, rfl, rfl, h1, h2⟩ := trodAll_cons h
    simp only [List.all_cons, Bool.and_eq_true, decide_eq_true_eq] at hr
    exact trodAll_cons_mk (Below.trod hl hr.1.1 hr.1.2 h1 hb (fun x hx => hlt x (List.mem_append_left _ hx))) (trodAll_same hl hb hr.2 h2 (fun x hx => hlt x (List.mem_append_right _ hx)))

/-- The post of a law that returns true, where nothing that was there has been written. -/
theorem post_same {H : Type} {enc : TypeId × Value → H} {f : Func} {s : ChangeSpec} {apart fresh handsOn : Bool} {W W' : World} {args : Array Value} {v : Value} {ds gs : List (DataW H)} {before : List MemPlace}
    (hW : DataW.Whole enc Tryz.prog f.params.toList s.vars apart W args.toList ds gs before)
    (hA : DataW.TrodAll enc Tryz.prog W 0 (fun _ => true) true f.params.toList args.toList ds before)
    (hr : f.params.toList.all (fun t => Tryz.prog.readableRec t && decide (t < Tryz.prog.types.size)) = true) (hds : (s.fn H (ds ++ gs)).args = ds)
    (hres : ∀ (b : Nat) (sp : Nat → Bool) (hd : Bool), DataW.TrodAll enc Tryz.prog W' b sp hd f.resultTypes.toList (v.resultList f.resultTypes.size) (s.fn H (ds ++ gs)).results [])
    (hvars : ∀ sp : Nat → Bool, DataW.TrodVars enc Tryz.prog W' sp s.vars (s.fn H (ds ++ gs)).vars [])
    (hb : Below W.heap.size W W') : s.post enc Tryz.prog f apart fresh handsOn false W args v W' := by
  have hold : ∀ p ∈ before, p.block < W.heap.size := fun p hp => by simpa using hW.lt p hp
  have hargs := trodAll_same laidOut hb hr hA hold
  refine ⟨ds, gs, before, [], before, [], hW, hres _ _ _, ?_, hvars _, World.keptBut_mono (fun p hp => ⟨hp, by simpa using hp⟩) (hb.frame (· ∈ before)), fun h => by cases h⟩
  rw [hds]
  exact hargs
end Go.Proofs.YtloplmaekonenaaGreatDoor
