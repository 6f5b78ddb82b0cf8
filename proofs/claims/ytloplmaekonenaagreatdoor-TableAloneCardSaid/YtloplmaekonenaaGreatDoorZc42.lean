/-
  gazettelaw14.TableAlone.
-/
import Derived.Test.YtloplmaekonenaaGreatDoorZc39
import Derived.Test.YtloplmaekonenaaGreatDoorZc34
import Derived.Test.YtloplmaekonenaaGreatDoorZc41
namespace Go.Proofs.YtloplmaekonenaaGreatDoor
set_option maxRecDepth 20000
open Go.RowKit

theorem riseS_one (k : List UInt8) : riseS [k] = [k] := riseS_of (List.pairwise_singleton _ _)
theorem outL_nil (td : Int) : outL [] td = [] := by
  unfold outL allK
  rw [show onceS (([] : List (Int × Fil)).filter (fun p => !(p.1 == td)) |>.map fun p => keyF p.2) = [] from rfl, show riseS [] = [] from List.mergeSort_nil]
  rfl
theorem allQ_nil (id : Int) : allQ [] id = [] := by
  unfold allQ keysL
  rw [show riseS ((([] : List (Int × Fil)).filter fun p => p.1 == id).map fun p => keyF p.2) = [] from List.mergeSort_nil]
  rfl
theorem allQ_one (x : Int) (q : Fil) : allQ [(x, q)] x = [q] := by
  unfold allQ keysL
  have e : ([(x, q)] : List (Int × Fil)).filter (fun p => p.1 == x) = [(x, q)] := by simp
  rw [e, List.map_cons, List.map_nil, riseS_one]
  unfold tabF
  simp
theorem outL_same (x : Int) (q : Fil) : outL [(x, q)] x = [] := by
  unfold outL allK
  have e : ([(x, q)] : List (Int × Fil)).filter (fun p => !(p.1 == x)) = [] := by simp
  rw [e, show onceS (([] : List (Int × Fil)).map fun p => keyF p.2) = [] from rfl, show riseS [] = [] from List.mergeSort_nil]
  rfl
theorem outL_one {x td : Int} (h : x ≠ td) (q : Fil) : outL [(x, q)] td = [q] := by
  have hk : allK [(x, q)] td = [keyF q] := by
    unfold allK
    have e : ([(x, q)] : List (Int × Fil)).filter (fun p => !(p.1 == td)) = [(x, q)] := by simp [h]
    rw [e, List.map_cons, List.map_nil, show onceS [keyF q] = [keyF q] by simp [onceS], riseS_one]
  have hf : allF [(x, q)] td (keyF q) = some q := by unfold allF; simp [h]
  unfold outL
  rw [hk, List.filterMap_cons, hf]
  have hc : covdF (allF [(x, q)] td) [keyF q] (keyF q) q = false := by
    unfold covdF
    rw [List.any_cons, List.any_nil, hf]
    simp
  rw [Option.filter_some, hc]
  rfl
theorem tabD_one (x : Int) (q : Fil) : tabD [(x, q)] x (keyF q) = [] := by unfold tabD; simp
theorem tabF_one (x : Int) (q : Fil) : tabF [(x, q)] x (keyF q) = some q := by unfold tabF; simp
theorem inj_one (x : Int) (q : Fil) : ∀ p ∈ [(x, q)], ∀ r ∈ [(x, q)], keyF p.2 = keyF r.2 → p.2 = r.2 := fun p hp r hr _ => by
  obtain rfl : p = (x, q) := by simpa using hp
  obtain rfl : r = (x, q) := by simpa using hr
  rfl

set_option maxHeartbeats 8000000 in
theorem alone_walk (w : World) (hl : LaidAt w) (hn : 16 ≤ w.heap.size) (f : Fr) (hf : f.ok w) (x y : Int) (hx : -9223372036854775808 ≤ x ∧ x ≤ 9223372036854775807) (hy : -9223372036854775808 ≤ y ∧ y ≤ 9223372036854775807) :
    Calls Tryz.prog 8 #[.agg #[.string f.sc, .slice f.a f.cs.length f.c], .int .i64 x, .int .i64 y] w fun e w' => e = .returned (.bool true) ∧ Mod (fun _ => False) w w' := by
  obtain ⟨wa, hwa⟩ : ∃ wa : World, w.alloc (.cells #[.string f.sc, .slice f.a f.cs.length f.c] 29) = wa := ⟨_, rfl⟩
  have hmwa : Mod (fun _ => False) w wa := hwa ▸ (Mod.refl (fun _ => False) w).alloc _
  have hgwa := heap_alloc_new w (.cells #[.string f.sc, .slice f.a f.cs.length f.c] 29)
  rw [hwa] at hgwa
  have hzwa : wa.heap.size = w.heap.size + 1 := by rw [← hwa]; simp
  have hl0 : Laid w w := ⟨hl, hn, ⟨rfl, rfl, rfl, Nat.le_refl _, fun _ _ => rfl⟩⟩
  have hfit := fit14_at w wa (hl0.mod0 hmwa)
  have Hl := Lib.hid hl
  have Hf := Lib.hid hf
  have Hwa := Lib.hid hwa
  have Hmwa := Lib.hid hmwa
  have Hgwa := Lib.hid hgwa
  have Hl0 := Lib.hid hl0
  have Hfit := Lib.hid hfit
  clear hl hf hwa hmwa hgwa hl0 hfit hzwa
  go_enter Tryz.func8, Tryz.ntmps8
  go_wp2_with (first | (rw [show w.alloc _ = wa from Hwa.out]) | fail)
  refine Hfit.out.mono ?_
  rintro e w1 ⟨rfl, hm1⟩
  have hmw1 := Hmwa.out.trans hm1 (fun _ _ h => h)
  have hg1 := hm1.heap Hgwa.out (fun h => h)
  have d0 : w1.cell? ⟨w.heap.size, 0, none⟩ = some (.string f.sc) := cell_of hg1 rfl
  have d1 : w1.cell? ⟨w.heap.size, 1, none⟩ = some (.slice f.a f.cs.length f.c) := cell_of hg1 rfl
  have hlt7 := light07_at w1 f.sc (.slice f.a f.cs.length f.c) f.cs (Hf.out.cs.mod hmw1 (fun _ _ h => h)) Hf.out.sc.2
  have Hm1 := Lib.hid hm1
  have Hmw1 := Lib.hid hmw1
  have Hg1 := Lib.hid hg1
  have Hlt7 := Lib.hid hlt7
  clear hm1 hmw1 hg1 hlt7
  go_wp2_with fail
  refine Hlt7.out.mono ?_
  rintro e w2 ⟨t, rfl, hm2⟩
  have hmw2 := Hmw1.out.trans hm2 (fun _ _ h => h)
  cases t with
  | false =>
    have Hm2 := Lib.hid hm2
    have Hmw2 := Lib.hid hmw2
    clear hm2 hmw2
    go_wp2_with fail
    go_ret
    exact ⟨rfl, Hmw2.out⟩
  | true =>
    have hg2 := hm2.heap Hg1.out (fun h => h)
    have d0 : w2.cell? ⟨w.heap.size, 0, none⟩ = some (.string f.sc) := cell_of hg2 rfl
    have d1 : w2.cell? ⟨w.heap.size, 1, none⟩ = some (.slice f.a f.cs.length f.c) := cell_of hg2 rfl
    have hfr := filter_right w2 f.sc (.slice f.a f.cs.length f.c) f.cs (Hf.out.cs.mod hmw2 (fun _ _ h => h)) Hf.out.sc.2 Hf.out.sc.1 (fun c hc => (Hf.out.nm c hc).1)
    obtain ⟨u, hu⟩ : ∃ u, filRight f.sc f.cs = u := ⟨_, rfl⟩
    rw [hu] at hfr
    have Hm2 := Lib.hid hm2
    have Hmw2 := Lib.hid hmw2
    have Hfr := Lib.hid hfr
    have Hu := Lib.hid hu
    have Hg2 := Lib.hid hg2
    clear hm2 hmw2 hfr hu hg2
    go_wp2_with fail
    refine Hfr.out.mono ?_
    rintro e w3 ⟨rfl, hm3⟩
    have hmw3 := Hmw2.out.trans hm3 (fun _ _ h => h)
    cases u with
    | false =>
      have Hm3 := Lib.hid hm3
      have Hmw3 := Lib.hid hmw3
      clear hm3 hmw3
      go_wp2_with fail
      go_ret
      exact ⟨rfl, Hmw3.out⟩
    | true =>
      have hb := fil_bounds Hu.out
      have hcx : ∀ c ∈ f.cs, c.fits := fun c hc => ⟨⟨(Hf.out.nm c hc).2.1, (Hf.out.nm c hc).2.2, by have := (hb.2.2 c hc).2.2.2; omega⟩, by have := (hb.2.2 c hc).1; omega⟩
      have hg3 := hm3.heap Hg2.out (fun h => h)
      have hnew := tnew_at w3
      have Hm3 := Lib.hid hm3
      have Hmw3 := Lib.hid hmw3
      have Hb := Lib.hid hb
      have Hcx := Lib.hid hcx
      have Hg3 := Lib.hid hg3
      have Hnew := Lib.hid hnew
      clear hm3 hmw3 hb hcx hg3 hnew d0 d1
      go_wp2_with fail
      refine Hnew.out.mono ?_
      rintro e w4 ⟨b, own, rfl, ht4, hown, hm4⟩
      have hmw4 := Hmw3.out.trans hm4 (fun _ _ h => h)
      have hown4 : ∀ k, own k → w.heap.size ≤ k ∧ k ≠ w.heap.size := fun k hk => by
        have h1 := hown k hk
        have h2 := Hmw3.out.size
        have h3 := (Array.getElem?_eq_some_iff.1 Hg3.out).1
        omega
      have ho := tout_at w4 b own _ [] 0 ht4 (by decide) (fun p hp => by cases hp) y (id_wf hy)
      rw [outL_nil] at ho
      have Hm4 := Lib.hid hm4
      have Hmw4 := Lib.hid hmw4
      have Hown4 := Lib.hid hown4
      have Ho := Lib.hid ho
      have Ht4 := Lib.hid ht4
      have Hown := Lib.hid hown
      clear hm4 hmw4 hown4 ho ht4 hown
      go_wp2_with fail
      refine Ho.out.mono ?_
      rintro e w5 ⟨v5, l5, rfl, hv5, -, hl5, -, hm5⟩
      obtain rfl : l5 = [] := List.map_eq_nil_iff.1 hl5
      obtain ⟨a5, c5, rfl, -⟩ := hv5.shape
      have ht5 := Ht4.out.mod0 hm5 (fun _ _ h => h)
      have hmw5 := Hmw4.out.trans hm5 (fun _ _ h => h)
      have ha := tall_at w5 b own _ [] 0 ht5 (by decide) x (id_wf hx)
      rw [allQ_nil] at ha
      rw [show ([] : List Fr).length = 0 from rfl]
      have Hm5 := Lib.hid hm5
      have Hmw5 := Lib.hid hmw5
      have Ht5 := Lib.hid ht5
      have Ha := Lib.hid ha
      have Hv5 := Lib.hid hv5
      have Hl5 := Lib.hid hl5
      clear hm5 hmw5 ht5 ha hv5 hl5
      go_wp2_with fail
      refine Ha.out.mono ?_
      rintro e w6 ⟨v6, l6, rfl, hv6, -, hl6, -, hm6⟩
      obtain rfl : l6 = [] := List.map_eq_nil_iff.1 hl6
      obtain ⟨a6, c6, rfl, -⟩ := hv6.shape
      have ht6 := Ht5.out.mod0 hm6 (fun _ _ h => h)
      have hmw6 := Hmw5.out.trans hm6 (fun _ _ h => h)
      have hg6 := ((Hm4.out.trans Hm5.out (fun _ _ h => h)).trans hm6 (fun _ _ h => h)).heap Hg3.out (fun h => h)
      have d0 : w6.cell? ⟨w.heap.size, 0, none⟩ = some (.string f.sc) := cell_of hg6 rfl
      have d1 : w6.cell? ⟨w.heap.size, 1, none⟩ = some (.slice f.a f.cs.length f.c) := cell_of hg6 rfl
      have hadd := tadd_at w w6 (Hl0.out.mod0 hmw6) b own _ [] 0 ht6 (by decide) (fun k hk => (Hown4.out k hk).1) x (id_wf hx) f.sc (.slice f.a f.cs.length f.c) f.cs (Hf.out.cs.mod hmw6 (fun _ _ h => h)) (by have := Hb.out; omega) Hcx.out (by have := Hb.out; omega)
      rw [show ([] : List Fr).length = 0 from rfl]
      have Hm6 := Lib.hid hm6
      have Hmw6 := Lib.hid hmw6
      have Ht6 := Lib.hid ht6
      have Hadd := Lib.hid hadd
      have Hv6 := Lib.hid hv6
      have Hl6 := Lib.hid hl6
      have Hg6 := Lib.hid hg6
      clear hm6 hmw6 ht6 hadd hv6 hl6 hg6
      go_wp2_with fail
      refine Hadd.out.mono ?_
      rintro e w7 (⟨h, -⟩ | ⟨-, rfl, own7, C7, ht7, ho1, ho2, ho3, hm7⟩)
      · exact absurd rfl h
      obtain ⟨nl, hnl⟩ : ∃ nl, normC f.cs = nl := ⟨_, rfl⟩
      obtain ⟨q, hq⟩ : ∃ q : Fil, (f.sc, nl) = q := ⟨_, rfl⟩
      rw [hnl, hq] at ht7
      have ht7' : Tab w7 b own7 C7 [(x, q)] 1 := ht7
      have hmw7 : Mod (fun _ => False) w w7 := Hmw6.out.upon hm7 (fun k hk => .inr (Hown4.out k hk).1)
      have hn7 : ¬ own w.heap.size := fun h => (Hown4.out _ h).2 rfl
      have hg7 := hm7.heap Hg6.out hn7
      have d0 : w7.cell? ⟨w.heap.size, 0, none⟩ = some (.string f.sc) := cell_of hg7 rfl
      have d1 : w7.cell? ⟨w.heap.size, 1, none⟩ = some (.slice f.a f.cs.length f.c) := cell_of hg7 rfl
      have hown7 : ∀ k, own7 k → w.heap.size ≤ k ∧ k ≠ w.heap.size := fun k hk => (ho2 k hk).elim (Hown4.out k) (fun h => by
        have h2 := Hmw6.out.size
        have h3 := (Array.getElem?_eq_some_iff.1 Hg6.out).1
        omega)
      have hadd2 := tadd_at w w7 (Hl0.out.mod0 hmw7) b own7 C7 _ 1 ht7' (by decide) (fun k hk => (hown7 k hk).1) x (id_wf hx) f.sc (.slice f.a f.cs.length f.c) f.cs (Hf.out.cs.mod hmw7 (fun _ _ h => h)) (by have := Hb.out; omega) Hcx.out (by have := Hb.out; omega)
      rw [hnl, hq] at hadd2
      have Hm7 := Lib.hid hm7
      have Hmw7 := Lib.hid hmw7
      have Hn7 := Lib.hid hn7
      have Hg7 := Lib.hid hg7
      have Hown7 := Lib.hid hown7
      have Hadd2 := Lib.hid hadd2
      have Ht7 := Lib.hid ht7
      have Ht7' := Lib.hid ht7'
      have Ho1 := Lib.hid ho1
      have Ho2 := Lib.hid ho2
      have Ho3 := Lib.hid ho3
      have Hnl := Lib.hid hnl
      have Hq := Lib.hid hq
      clear hm7 hmw7 hn7 hg7 hown7 hadd2 ht7 ht7' ho1 ho2 ho3 hnl hq
      go_wp2_with fail
      refine Hadd2.out.mono ?_
      rintro e w8 (⟨-, rfl, hm8⟩ | ⟨h, -⟩)
      rotate_left
      · rw [tabF_one] at h; cases h
      have ht8 := Ht7'.out.mod0 hm8 (fun _ _ h => h)
      have hmw8 := Hmw7.out.trans hm8 (fun _ _ h => h)
      have hg8 := hm8.heap Hg7.out (fun h => h)
      have ho8 := tout_at w8 b own7 C7 [(x, q)] 1 ht8 (by decide) (inj_one x q) y (id_wf hy)
      have Hm8 := Lib.hid hm8
      have Ht8 := Lib.hid ht8
      have Hmw8 := Lib.hid hmw8
      have Hg8 := Lib.hid hg8
      have Ho8 := Lib.hid ho8
      clear hm8 ht8 hmw8 hg8 ho8
      go_wp2_with fail
      refine Ho8.out.mono ?_
      rintro e w9 ⟨v9, l9, rfl, hv9, hb9, hl9, hf9, hm9⟩
      have ht9 := Ht8.out.mod0 hm9 (fun _ _ h => h)
      have hmw9 := Hmw8.out.trans hm9 (fun _ _ h => h)
      have hg9 := hm9.heap Hg8.out (fun h => h)
      obtain ⟨a9, c9, rfl, -⟩ := hv9.shape
      by_cases hxy : x = y
      · subst hxy
        rw [outL_same] at hl9
        obtain rfl : l9 = [] := List.map_eq_nil_iff.1 hl9
        have haq := tall_at w9 b own7 C7 [(x, q)] 1 ht9 (by decide) x (id_wf hx)
        rw [allQ_one] at haq
        rw [show ([] : List Fr).length = 0 from rfl]
        have Hv9 := Lib.hid hv9
        have Hb9 := Lib.hid hb9
        have Hl9 := Lib.hid hl9
        have Hf9 := Lib.hid hf9
        have Hm9 := Lib.hid hm9
        have Ht9 := Lib.hid ht9
        have Hmw9 := Lib.hid hmw9
        have Hg9 := Lib.hid hg9
        have Haq := Lib.hid haq
        clear hv9 hb9 hl9 hf9 hm9 ht9 hmw9 hg9 haq
        go_wp2_with fail
        refine Haq.out.mono ?_
        rintro e wA ⟨vA, lA, rfl, hvA, -, hlA, -, hmA⟩
        obtain ⟨fr, rfl, hfr⟩ := one_of hlA
        obtain ⟨aA, cA, rfl, -⟩ := hvA.shape
        have hmwA := Hmw9.out.trans hmA (fun _ _ h => h)
        rw [show ([fr] : List Fr).length = 1 from rfl]
        have HvA := Lib.hid hvA
        have HlA := Lib.hid hlA
        have Hfr := Lib.hid hfr
        have HmA := Lib.hid hmA
        have HmwA := Lib.hid hmwA
        clear hvA hlA hfr hmA hmwA
        go_wp2_with fail
        go_ret
        exact ⟨rfl, HmwA.out⟩
      · rw [outL_one hxy] at hl9
        obtain ⟨fr, rfl, hfr⟩ := one_of hl9
        obtain ⟨gg, oo, rfl, hc9⟩ := rd_el (f := Fr.cells) (sz := 2) (fun _ => rfl) hv9.rd (j := 0) (x := fr) rfl
        have hrf := (hf9 _ (List.mem_singleton.2 rfl)).1.rd
        obtain ⟨key, hkey⟩ : ∃ key, keyF q = key := ⟨_, rfl⟩
        have hfs : fr.sc = f.sc ∧ fr.cs = nl := by
          have h1 := hfr.trans Hq.out.symm
          exact ⟨congrArg Prod.fst h1, congrArg Prod.snd h1⟩
        have hpr : ∀ wx, Mod (fun _ => False) w9 wx → Calls Tryz.prog 29 #[.agg #[.string fr.sc, .slice fr.a fr.cs.length fr.c]] wx fun e w' => e = .returned (.string (str key)) ∧ Mod (fun _ => False) w9 w' := fun wx hx => by
          have h1 := fprint_at w wx (Hl0.out.mod0 (hmw9.trans hx (fun _ _ h => h))) fr.sc (.slice fr.a fr.cs.length fr.c) fr.cs (hrf.mod hx (fun _ _ h => h)) (by rw [hfs.2, ← Hnl.out]; have := normC_len f.cs; have := Hb.out; omega) (by rw [hfs.1]; have := Hb.out; omega) (by rw [hfs.2, ← Hnl.out]; exact normC_fits Hcx.out)
          rw [show filPrt fr.sc fr.cs = key by rw [← hkey, ← hfr]; rfl] at h1
          exact h1.mono fun e w' ⟨he, hm⟩ => ⟨he, hx.trans hm (fun _ _ h => h)⟩
        have hky : ∀ wx, Mod (fun _ => False) w9 wx → Calls Tryz.prog 32 #[.agg #[.string f.sc, .slice f.a f.cs.length f.c]] wx fun e w' => e = .returned (.string (str key)) ∧ Mod (fun _ => False) w9 w' := fun wx hx => by
          have h1 := fkey_at w wx (Hl0.out.mod0 (hmw9.trans hx (fun _ _ h => h))) f.sc (.slice f.a f.cs.length f.c) f.cs (Hf.out.cs.mod (hmw9.trans hx (fun _ _ h => h)) (fun _ _ h => h)) (by have := Hb.out; omega) Hcx.out (by have := Hb.out; omega)
          rw [Hnl.out, Hq.out, hkey] at h1
          exact h1.mono fun e w' ⟨he, hm⟩ => ⟨he, hx.trans hm (fun _ _ h => h)⟩
        have hF : ∀ wx, Mod (fun _ => False) w9 wx → wx.cell? ⟨gg, oo, none⟩ = some (.string fr.sc) ∧ wx.cell? ⟨gg, oo + 1, none⟩ = some (.slice fr.a fr.cs.length fr.c) ∧ wx.cell? ⟨w.heap.size, 0, none⟩ = some (.string f.sc) ∧ wx.cell? ⟨w.heap.size, 1, none⟩ = some (.slice f.a f.cs.length f.c) := fun wx hx =>
          ⟨hx.cell (by have := hc9 0 _ rfl; simpa using this) (fun h => h), hx.cell (by have := hc9 1 _ rfl; simpa using this) (fun h => h), hx.cell (cell_of hg9 rfl) (fun h => h), hx.cell (cell_of hg9 rfl) (fun h => h)⟩
        rw [show ([fr] : List Fr).length = 1 from rfl]
        have Hv9 := Lib.hid hv9
        have Hb9 := Lib.hid hb9
        have Hl9 := Lib.hid hl9
        have Hf9 := Lib.hid hf9
        have Hm9 := Lib.hid hm9
        have Ht9 := Lib.hid ht9
        have Hmw9 := Lib.hid hmw9
        have Hg9 := Lib.hid hg9
        have Hpr := Lib.hid hpr
        have Hky := Lib.hid hky
        have HF := Lib.hid hF
        have Hkey := Lib.hid hkey
        have Hrf := Lib.hid hrf
        have Hfs := Lib.hid hfs
        have Hfr := Lib.hid hfr
        have Hc9 := Lib.hid hc9
        clear hv9 hb9 hl9 hf9 hm9 ht9 hmw9 hg9 hpr hky hF hkey hrf hfs hfr hc9
        go_wp2_with fail
        refine wp_region_news (by kernel_rfl) (by kernel_rfl) ?_
        iterate 12 (first
          | (refine quiet_skip ?_ (fun K hK => ?_)
             · first | (go_simp; done) | (go_simp; simp [undef]; done)
             go_simp; refine hK _ ?_; clear hK K)
          | (refine quiet_do ?_ ?_ (fun w' hw' => ?_) (fun K hK => ?_)
             · first | (go_simp; done) | (go_simp; simp [undef]; done)
             rotate_left
             · obtain ⟨f0, f1, f2, f3⟩ := HF.out w' hw'
               go_simp
               rfl
             go_simp; refine hK _ ?_; clear hK K)
          | (refine quiet_in ?_ ?_ ?_ ?_ (fun w' hw' => ?_) ?_ (fun K hK => ?_)
             · first | (go_simp; done) | (go_simp; simp [undef]; done)
             rotate_left 3
             · obtain ⟨f0, f1, f2, f3⟩ := HF.out w' hw'
               go_simp
               constructor <;> rfl
             · first | with_reducible exact Hpr.out | with_reducible exact Hky.out
             go_simp; refine hK _ ?_; clear hK K))
        refine quiet_end (fun w' hw' => ?_)
        have htX := Ht9.out.mod0 hw' (fun _ _ h => h)
        have hmwX := Hmw9.out.trans hw' (fun _ _ h => h)
        obtain ⟨-, -, f2, f3⟩ := HF.out w' hw'
        have hrem := trem_at w w' (Hl0.out.mod0 hmwX) b own7 C7 [(x, q)] 1 htX (by decide) x (id_wf hx) f.sc (.slice f.a f.cs.length f.c) f.cs (Hf.out.cs.mod hmwX (fun _ _ h => h)) (by have := Hb.out; omega) Hcx.out (by have := Hb.out; omega)
        rw [Hnl.out, Hq.out] at hrem
        have HtX := Lib.hid htX
        have HmwX := Lib.hid hmwX
        have Hrem := Lib.hid hrem
        have Hw' := Lib.hid hw'
        clear htX hmwX hrem hw'
        go_wp2_with fail
        refine Hrem.out.mono ?_
        rintro e wA (⟨h, -⟩ | ⟨-, rfl, htA, hmA⟩)
        · rw [tabF_one] at h; cases h
        rw [tabD_one] at htA
        have hnA : ¬ own7 w.heap.size := fun h => (Hown7.out _ h).2 rfl
        have a2 : wA.cell? ⟨w.heap.size, 0, none⟩ = some (.string f.sc) := hmA.cell f2 hnA
        have a3 : wA.cell? ⟨w.heap.size, 1, none⟩ = some (.slice f.a f.cs.length f.c) := hmA.cell f3 hnA
        have hmwA : Mod (fun _ => False) w wA := HmwX.out.upon hmA (fun k hk => .inr (Hown7.out k hk).1)
        have hrem2 := trem_at w wA (Hl0.out.mod0 hmwA) b own7 C7 [] 1 htA (by decide) x (id_wf hx) f.sc (.slice f.a f.cs.length f.c) f.cs (Hf.out.cs.mod hmwA (fun _ _ h => h)) (by have := Hb.out; omega) Hcx.out (by have := Hb.out; omega)
        have HtA := Lib.hid htA
        have HmwA := Lib.hid hmwA
        have Hrem2 := Lib.hid hrem2
        have HmA := Lib.hid hmA
        have HnA := Lib.hid hnA
        clear htA hmwA hrem2 hmA hnA
        go_wp2_with fail
        refine Hrem2.out.mono ?_
        rintro e wB (⟨-, rfl, hmB⟩ | ⟨h, -⟩)
        rotate_left
        · exact absurd rfl h
        have htB := HtA.out.mod0 hmB (fun _ _ h => h)
        have hmwB := HmwA.out.trans hmB (fun _ _ h => h)
        have hoB := tout_at wB b own7 C7 [] 1 htB (by decide) (fun p hp => by cases hp) y (id_wf hy)
        rw [outL_nil] at hoB
        have HtB := Lib.hid htB
        have HmwB := Lib.hid hmwB
        have HoB := Lib.hid hoB
        have HmB := Lib.hid hmB
        clear htB hmwB hoB hmB
        go_wp2_with fail
        refine HoB.out.mono ?_
        rintro e wC ⟨vC, lC, rfl, hvC, -, hlC, -, hmC⟩
        obtain rfl : lC = [] := List.map_eq_nil_iff.1 hlC
        obtain ⟨aC, cC, rfl, -⟩ := hvC.shape
        have hmwC := HmwB.out.trans hmC (fun _ _ h => h)
        rw [show ([] : List Fr).length = 0 from rfl]
        have HvC := Lib.hid hvC
        have HlC := Lib.hid hlC
        have HmC := Lib.hid hmC
        have HmwC := Lib.hid hmwC
        clear hvC hlC hmC hmwC
        go_wp2_with fail
        go_ret
        exact ⟨rfl, HmwC.out⟩
end Go.Proofs.YtloplmaekonenaaGreatDoor
