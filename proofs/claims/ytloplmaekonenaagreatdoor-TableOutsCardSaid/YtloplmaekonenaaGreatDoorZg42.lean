/-
  gazettelaw14.TableOuts.
-/
import Derived.Test.YtloplmaekonenaaGreatDoorZg41
import Derived.Test.YtloplmaekonenaaGreatDoorZg10
import Derived.BigQuiet
namespace Go.Proofs.YtloplmaekonenaaGreatDoor
set_option maxRecDepth 20000
open Go.RowKit Go.Sort

/-- A round over the places: all of the others is gathered. -/
def GaRel (w4 : World) (R : List (Int × Fr)) (td : Int) (mm r ma : Nat) (f : Lit → Option Value) (wr : World) : Prop :=
  ∃ (left : Lit → Bool) (cnt : Nat) (A : List UInt8 → Option Fr), RngR wr 3 mm r f left cnt ∧ Gath wr ma R td A ∧ (∀ x k, x ≠ td → left (.int .i64 x) = false → (refF R x k).isSome = true → (A k).isSome = true) ∧ Mod (fun _ => False) w4 wr
/-- A round over the filters of one. -/
def GiRel (w4 : World) (R : List (Int × Fr)) (td : Int) (mm r ma : Nat) (f : Lit → Option Value) (id : Int) (left : Lit → Bool) (cnt : Nat) (mi r2 : Nat) (f2 : Lit → Option Value) (wr : World) : Prop :=
  ∃ (left2 : Lit → Bool) (cnt2 : Nat) (A : List UInt8 → Option Fr), RngR wr 9 mi r2 f2 left2 cnt2 ∧ RngR wr 3 mm r f left cnt ∧ Gath wr ma R td A ∧
    (∀ x k, x ≠ td → x ≠ id → left (.int .i64 x) = false → (refF R x k).isSome = true → (A k).isSome = true) ∧ (id ≠ td → ∀ k, left2 (.string k) = false → (refF R id k).isSome = true → (A k).isSome = true) ∧ Mod (fun _ => False) w4 wr
/-- A round over what is told. -/
def OtRel (w7 : World) (Q : List Fil) (S : ByteArray) (E : List Att) (tv iv : Value) (wr : World) : Prop :=
  ∃ j : Nat, iv = .int .i64 j ∧ j ≤ Q.length ∧ tv = .bool ((Q.take j).any fun q => rMatF q S E) ∧ Mod (fun _ => False) w7 wr
def OiRel (w8 : World) (n : Nat) (iv : Value) (wr : World) : Prop := ∃ j : Nat, iv = .int .i64 j ∧ j ≤ n ∧ Mod (fun _ => False) w8 wr
/-- A round over what was gathered. -/
def OcRel (w9 : World) (ma r : Nat) (f : Lit → Option Value) (wr : World) : Prop := ∃ (left : Lit → Bool) (cnt : Nat), RngR wr 9 ma r f left cnt ∧ Mod (fun _ => False) w9 wr
def OdRel (w9 : World) (Q : List Fil) (key : List UInt8) (g : Fil) (cv iv : Value) (wr : World) : Prop :=
  ∃ j : Nat, iv = .int .i64 j ∧ j ≤ Q.length ∧ cv = .bool ((Q.take j).any fun q => keyF q == key || covQ q g) ∧ Mod (fun _ => False) w9 wr

theorem RngR.lt {w : World} {kt : TypeId} {b r : Nat} {f : Lit → Option Value} {left : Lit → Bool} {cnt : Nat} (h : RngR w kt b r f left cnt) : r < w.heap.size := by
  obtain ⟨D, n, ⟨es, clock, since, seen, c0, hb, F', hs, hD, hr, rest⟩, h3⟩ := h
  exact (Array.getElem?_eq_some_iff.1 hr).1

set_option maxHeartbeats 16000000 in
theorem touts_walk (w : World) (hl : LaidAt w) (hn : 16 ≤ w.heap.size) (v : Value) (l : List Tc) (hv : TcsAt w v l) (hll : l.length ≤ 9223372036854775807) (td : Int) (htd : -9223372036854775808 ≤ td ∧ td ≤ 9223372036854775807) (S0 : ByteArray) (hS0 : S0.size ≤ maxLen) (ea : Option Addr) (ec : Nat) (L : List Att) (hrd0 : RdSl w 6 (.slice ea L.length ec) L.length (atts L)) (hLl : L.length ≤ maxLen) (hLn : ∀ x ∈ L, x.name.size ≤ maxLen) :
    Calls Tryz.prog 9 #[v, .int .i64 td, .agg #[.string S0, .slice ea L.length ec]] w fun e w' => e = .returned (.bool true) ∧ Mod (fun _ => False) w w' := by
  have hl0 : Laid w w := ⟨hl, hn, ⟨rfl, rfl, rfl, Nat.le_refl _, fun _ _ => rfl⟩⟩
  have hS0' : S0.size ≤ 9223372036854775807 := by unfold maxLen at hS0; omega
  have hLl' : L.length ≤ 9223372036854775807 := by unfold maxLen at hLl; omega
  have hLn' : ∀ x ∈ L, x.name.size ≤ 9223372036854775807 := fun x hx => by have := hLn x hx; unfold maxLen at this; omega
  obtain ⟨wa, hwa⟩ : ∃ wa : World, w.alloc (.cells #[.string S0, .slice ea L.length ec] 32) = wa := ⟨_, rfl⟩
  have hmwa : Mod (fun _ => False) w wa := hwa ▸ (Mod.refl (fun _ => False) w).alloc _
  have hgwa := heap_alloc_new w (.cells #[.string S0, .slice ea L.length ec] 32)
  rw [hwa] at hgwa
  have hzwa : wa.heap.size = w.heap.size + 1 := by rw [← hwa]; simp
  have hfit := fit14_at w wa (hl0.mod0 hmwa)
  have Hl := Lib.hid hl
  have Hv := Lib.hid hv
  have Hl0 := Lib.hid hl0
  have Hfit := Lib.hid hfit
  have Hrd0 := Lib.hid hrd0
  have HLn' := Lib.hid hLn'
  have Hwa := Lib.hid hwa
  have Hmwa := Lib.hid hmwa
  have Hgwa := Lib.hid hgwa
  clear hl hv hl0 hfit hrd0 hLn' hwa hmwa hgwa hS0 hLl hLn hzwa
  go_enter Tryz.func9, Tryz.ntmps9
  go_wp2_with (first | (rw [show w.alloc _ = wa from Hwa.out]) | fail)
  refine Hfit.out.mono ?_
  rintro e w0 ⟨rfl, hm0⟩
  have hmw0 := Hmwa.out.trans hm0 (fun _ _ h => h)
  have hlt := light14_at w0 v l (Hv.out.mod hmw0) hll
  have hg0 := hm0.heap Hgwa.out (fun h => h)
  have Hm0 := Lib.hid hm0
  have Hmw0 := Lib.hid hmw0
  have Hlt := Lib.hid hlt
  have Hg0 := Lib.hid hg0
  clear hm0 hmw0 hlt hg0
  go_wp2_with fail
  refine Hlt.out.mono ?_
  rintro e w1 ⟨t, rfl, ht, hm1⟩
  have hmw1 := Hmw0.out.trans hm1 (fun _ _ h => h)
  have hg1 := hm1.heap Hg0.out (fun h => h)
  have d0 : w1.cell? ⟨w.heap.size, 0, none⟩ = some (.string S0) := cell_of hg1 rfl
  have d1 : w1.cell? ⟨w.heap.size, 1, none⟩ = some (.slice ea L.length ec) := cell_of hg1 rfl
  cases t with
  | false =>
    have Hm1 := Lib.hid hm1
    have Hmw1 := Lib.hid hmw1
    have Ht := Lib.hid ht
    have Hg1 := Lib.hid hg1
    clear hm1 hmw1 ht hg1
    go_wp2_with fail
    go_ret
    exact ⟨rfl, Hmw1.out⟩
  | true =>
    have hl60 := ht rfl
    by_cases z3 : 60 < S0.size
    · have z3' : (60 : Int) < ((S0.size : Nat) : Int) := by omega
      have Hm1 := Lib.hid hm1
      have Hmw1 := Lib.hid hmw1
      have Hg1 := Lib.hid hg1
      have Ht := Lib.hid ht
      clear hm1 hmw1 hg1 ht
      go_wp2_with fail
      go_ret
      exact ⟨rfl, Hmw1.out⟩
    have z3' : ((S0.size : Nat) : Int) ≤ 60 := by omega
    by_cases z4 : 20 < L.length
    · have z4' : (20 : Int) < ((L.length : Nat) : Int) := by omega
      have Hm1 := Lib.hid hm1
      have Hmw1 := Lib.hid hmw1
      have Hg1 := Lib.hid hg1
      have Ht := Lib.hid ht
      clear hm1 hmw1 hg1 ht
      go_wp2_with fail
      go_ret
      exact ⟨rfl, Hmw1.out⟩
    have z4' : ((L.length : Nat) : Int) ≤ 20 := by omega
    have zd3 : decide ((60 : Int) < ((S0.size : Nat) : Int)) = false := decide_eq_false (by omega)
    have zd4 : decide ((20 : Int) < ((L.length : Nat) : Int)) = false := decide_eq_false (by omega)
    have hfill := fill_at w w1 (Hl0.out.mod0 hmw1) v l Hv.out hmw1 hl60
    have Hm1 := Lib.hid hm1
    have Hmw1 := Lib.hid hmw1
    have Hg1 := Lib.hid hg1
    have Ht := Lib.hid ht
    have Hfill := Lib.hid hfill
    clear hm1 hmw1 hg1 ht hfill
    go_wp2_with fail
    refine Hfill.out.mono ?_
    rintro e w2 ⟨b, mm, N, N2, n, own, C, om, R, f, rfl, hfa2, hN, hN2, hm2⟩
    have hmw2 := Hmw1.out.trans hm2 (fun _ _ h => h)
    have hg2 := hm2.heap Hg1.out (fun h => h)
    have e0 : w2.cell? ⟨w.heap.size, 0, none⟩ = some (.string S0) := cell_of hg2 rfl
    have e1 : w2.cell? ⟨w.heap.size, 1, none⟩ = some (.slice ea L.length ec) := cell_of hg2 rfl
    have hevt := ev7_at w2 S0 (.slice ea L.length ec) L (Hrd0.out.mod hmw2 (fun _ _ h => h)) (by omega) hS0' (fun y hy => newL_bound hy HLn'.out)
    have Hfa2 := Lib.hid hfa2
    have Hm2 := Lib.hid hm2
    have Hmw2 := Lib.hid hmw2
    have Hg2 := Lib.hid hg2
    have Hevt := Lib.hid hevt
    clear hfa2 hm2 hmw2 hg2 hevt d0 d1
    go_wp2_with fail
    refine Hevt.out.mono ?_
    rintro e w3 ⟨av, rfl, hoa, hoab, hm3⟩
    obtain ⟨na, nc, rfl, -⟩ := hoa.shape
    have hEl : (ev7L L).length ≤ 8 := ev7_len L
    have hEs : ∀ a ∈ ev7L L, a.name.size ≤ 12 ∧ a.v.text.size ≤ 40 := fun a ha => ev7_small ha
    have hEr := ev7L_rises L
    obtain ⟨S, hS⟩ : ∃ S, ev7S S0 = S := ⟨_, rfl⟩
    obtain ⟨E, hE⟩ : ∃ E, ev7L L = E := ⟨_, rfl⟩
    rw [hE] at hoa hoab hEl hEs hEr ⊢
    rw [hS]
    have hS52 : S.size ≤ 52 := by rw [← hS]; exact ev7S_size
    have hg3 := hm3.heap Hg2.out (fun h => h)
    have hmw3 := Hmw2.out.trans hm3 (fun _ _ h => h)
    have hfa3 := Hfa2.out.mod hm3
    have hlow : w.heap.size < w1.heap.size := (Array.getElem?_eq_some_iff.1 Hg1.out).1
    have hlow2 := Hm2.out.size
    have hn200 : n ≤ 1000 := by have := hfa3.r.n; omega
    have Hoa := Lib.hid hoa
    have Hoab := Lib.hid hoab
    have HEs := Lib.hid hEs
    have HEr := Lib.hid hEr
    have Hg3 := Lib.hid hg3
    have Hmw3 := Lib.hid hmw3
    have Hfa3 := Lib.hid hfa3
    have Hm3 := Lib.hid hm3
    clear hoa hoab hEs hEr hg3 hmw3 hfa3 hm3 hS hE e0 e1
    go_wp2_with (first | ((with_reducible refine wpList_store_row_lit 32 (.tmp 5) (.tmp 58) ?_); refine ⟨w.heap.size, rfl, _, _, Hg3.out, [.string S, .slice na E.length nc], rfl, rfl, by kernel_rfl, rfl, ?_⟩; intro w4 hg4 hm4; have Hg4 := Lib.hid hg4; have Hm4 := Lib.hid hm4; clear hg4 hm4; have Hfa4 := Lib.hid (Hfa3.out.upon Hm4.out hlow); obtain ⟨wa4, hwa4⟩ : ∃ wa4 : World, w4.alloc (.map #[] 0) = wa4 := ⟨_, rfl⟩; have hmwa4 : Mod (fun _ => False) w4 wa4 := hwa4 ▸ (Mod.refl (fun _ => False) w4).alloc _; have hza4 : wa4.heap.size = w4.heap.size + 1 := (by rw [← hwa4]; simp); have HZ4 := Lib.hid hza4; have hma4 : MapR wa4 9 w4.heap.size 0 (fun _ => none) := hwa4 ▸ MapR.made w4 9; have HMa := Lib.hid hma4; have Hfb := Lib.hid (Hfa4.out.mod hmwa4); have Hwa4 := Lib.hid hwa4; have Hmwa4 := Lib.hid hmwa4; clear hwa4 hmwa4 hza4 hma4) | (rw [show w4.alloc _ = wa4 from Hwa4.out]) | ((at_range; refine wpList_range_R rfl _ 56 rfl 3 61 keyed_i Tryz.underlying56 mm n f rfl Hfb.out.r.mp ?_; intro wF hrg hmF hzF)) | fail)
    have hmw4 : Mod (fun _ => False) w w4 := Hmw3.out.upon Hm4.out (fun k hk => .inr (Nat.le_of_eq (Eq.symm hk)))
    have hrd4 := (Hoa.out.mod Hm4.out (fun k hk e => by have h1 := Hoab.out k hk; have h2 : k = w.heap.size := e; omega)).rd
    have hrl : R.length ≤ 1000 := by
      have h1 := Hfa4.out.t
      obtain ⟨mo, h1⟩ := h1
      have h2 := h1.low
      unfold refM at h2
      rw [List.length_map] at h2
      omega
    have hmaw : ∀ k, om k → k ≠ w4.heap.size := fun k hk e => by have := Hfa4.out.r.low k hk; omega
    have Hmw4 := Lib.hid hmw4
    have Hrd4 := Lib.hid hrd4
    have Hmaw := Lib.hid hmaw
    clear hmw4 hrd4 hmaw
    have hrel0 : GaRel w4 R td mm wa4.heap.size w4.heap.size f wF := ⟨_, _, fun _ => none, hrg, (Gath.new HMa.out).mod hmF (fun h => h), fun x k hx hl hs => (by
      have h1 := Hfa4.out.r.at_ x
      have h2 : (f (.int .i64 x)).isSome = false := hl
      cases h3 : f (.int .i64 x) with
      | some v => rw [h3] at h2; cases h2
      | none =>
        rw [h3] at h1
        have h4 : refF R x k = none := h1 k
        rw [h4] at hs
        cases hs), Hmwa4.out.trans hmF (fun _ _ h => h)⟩
    have Hrel0 := Lib.hid hrel0
    have Hrg := Lib.hid hrg
    have HmF := Lib.hid hmF
    clear hrel0 hrg hmF hzF
    go_frame
    go_loopw [62] (fun _ wr => GaRel w4 R td mm wa4.heap.size w4.heap.size f wr) (fun _ wr => wr.rangeLeft mm wa4.heap.size)
    case atStart => exact Hrel0.out
    case round =>
      revert wr
      intro wl hrel
      obtain ⟨left, cnt, A, hrg, hga, hAc, hmr⟩ := hrel
      have hml := Hmw4.out.trans hmr (fun _ _ h => h)
      have Hmr := Lib.hid hmr
      have Hml := Lib.hid hml
      have Hga := Lib.hid hga
      have HAc := Lib.hid hAc
      clear hmr hml hga hAc
      go_wp2_with (first | ((at_next; refine wpList_next_R rfl _ rfl 3 keyed_i (Value.int .i64) (Lit.int .i64) (inv_i _ Tryz.underlying3) (in_i _ Tryz.underlying3) mm wa4.heap.size f left cnt rfl hrg ?_ ?_)) | fail)
      · intro hlz
        have hall : ∀ x k, x ≠ td → (refF R x k).isSome = true → (A k).isSome = true := fun x k hx hs => HAc.out x k hx (hlz _) hs
        have hfal := Hfa4.out.mod Hmr.out
        have hout := tout_at wl b own C (refM R) N hfal.t (by omega) Hfa4.out.ok.inj td (id_wf htd)
        have Hrg := Lib.hid hrg
        have Hlz := Lib.hid hlz
        have Hall := Lib.hid hall
        have Hfal := Lib.hid hfal
        have Hout := Lib.hid hout
        clear hrg hlz hall hfal hout
        go_wp2_with fail
        refine Hout.out.mono ?_
        rintro e w7 ⟨gv, G, rfl, hog, hogb, hG, hGc, hm7⟩
        obtain ⟨ga, gc, rfl, -⟩ := hog.shape
        have hm47 := Hmr.out.trans hm7 (fun _ _ h => h)
        have hmw7 := Hmw4.out.trans hm47 (fun _ _ h => h)
        have hga7 := Hga.out.mod hm7 (fun h => h)
        have hQl := outL_len (refM R) td
        obtain ⟨Q, hQ⟩ : ∃ Q, outL (refM R) td = Q := ⟨_, rfl⟩
        rw [hQ] at hG hQl
        have hG6 : G.length = Q.length := by rw [← hG, List.length_map]
        have hGl : G.length ≤ 1000 := by
          unfold refM at hQl
          rw [List.length_map] at hQl
          omega
        have hnew : OtRel w7 Q S E (.bool false) (.int .i64 ((0 : Nat) : Int)) w7 := ⟨0, rfl, Nat.zero_le _, rfl, Mod.refl _ _⟩
        have HG6 := Lib.hid hG6
        have Hog := Lib.hid hog
        have Hogb := Lib.hid hogb
        have HG := Lib.hid hG
        have HGc := Lib.hid hGc
        have Hm7 := Lib.hid hm7
        have Hm47 := Lib.hid hm47
        have Hmw7 := Lib.hid hmw7
        have Hga7 := Lib.hid hga7
        have HQ := Lib.hid hQ
        have Hnew := Lib.hid hnew
        clear hG6 hog hogb hG hGc hm7 hm47 hmw7 hga7 hQ hnew hQl
        go_wp2_with fail
        go_loopw [16, 85] (fun tv iv wr => OtRel w7 Q S E tv iv wr) (fun _ i _ => G.length - (intOf i).toNat)
        case atStart => exact Hnew.out
        case round =>
          revert wr
          intro wm hrel
          obtain ⟨j, rfl, hj, rfl, hmm⟩ := hrel
          have hm4m := Hm47.out.trans hmm (fun _ _ h => h)
          have hmwm := Hmw7.out.trans hmm (fun _ _ h => h)
          obtain ⟨W, hW⟩ : ∃ W, ((Q.take j).any fun q => rMatF q S E) = W := ⟨_, rfl⟩
          rw [hW]
          by_cases hlt : j < G.length
          · have hlt' : (j : Int) < G.length := by omega
            obtain ⟨x, hxj⟩ : ∃ x, G[j]? = some x := ⟨_, List.getElem?_eq_getElem hlt⟩
            have hqj : Q[j]? = some x.fil := by rw [← HG.out, List.getElem?_map, hxj]; rfl
            have hqm : x.fil ∈ outL (refM R) td := by rw [HQ.out]; exact List.mem_of_getElem? hqj
            obtain ⟨x0, g, hx0, hgR, hgq, hgk⟩ := out_ref hqm
            obtain ⟨z0, hz0⟩ := out_mem hqm
            have hqo : okQ x.fil := refM_okQ Hfa4.out.ok _ hz0
            have hqc : okCs x.cs := refM_tabOk Hfa4.out.ok _ hz0
            have hAs : (A (keyF x.fil)).isSome = true := Hall.out x0 _ hx0 (refF_has hgR hgk)
            obtain ⟨sg, soff, rfl, hcx⟩ : ∃ g off, ga = some ⟨g, off, none⟩ ∧ CellsAt wm g (off + j * 2) x.cells := rd_el (f := Fr.cells) (sz := 2) (fun _ => rfl) (Hog.out.mod hmm (fun _ _ h => h)).rd hxj
            have hxr := ((HGc.out x (List.mem_of_getElem? hxj)).1.mod hmm (fun _ _ h => h)).rd
            obtain ⟨wv, hwv⟩ : ∃ wv : World, wm.alloc (.cells #[.string x.sc, .slice x.a x.cs.length x.c] 29) = wv := ⟨_, rfl⟩
            have hmwv : Mod (fun _ => False) wm wv := hwv ▸ (Mod.refl (fun _ => False) wm).alloc _
            have hgwv := heap_alloc_new wm (.cells #[.string x.sc, .slice x.a x.cs.length x.c] 29)
            rw [hwv] at hgwv
            have hzwv : wv.heap.size = wm.heap.size + 1 := by rw [← hwv]; simp
            have hxr2 := hxr.mod hmwv (fun _ _ h => h)
            have hmw2v := hmwm.trans hmwv (fun _ _ h => h)
            have v2 : wv.cell? ⟨wm.heap.size, 0, none⟩ = some (.string x.sc) := cell_of hgwv rfl
            have v3 : wv.cell? ⟨wm.heap.size, 1, none⟩ = some (.slice x.a x.cs.length x.c) := cell_of hgwv rfl
            have hpr := fprint_at w wv (Hl0.out.mod0 hmw2v) x.sc (.slice x.a x.cs.length x.c) x.cs hxr2 (Nat.le_trans hqo.1 (by decide)) hqo.2.2 hqo.2.1
            have hkl0 := filPrt_len x.sc x.cs hqo.2.1
            have hql : x.cs.length ≤ 19 := hqo.1
            have hqs : x.sc.size ≤ 1000000 := hqo.2.2
            have hAs : (A (filPrt x.sc x.cs)).isSome = true := hAs
            obtain ⟨key, hky⟩ : ∃ key, filPrt x.sc x.cs = key := ⟨_, rfl⟩
            rw [hky] at hpr hkl0 hAs
            have hkl : key.length ≤ maxLen := by unfold maxLen; omega
            have Hmm := Lib.hid hmm
            have Hm4m := Lib.hid hm4m
            have Hmwm := Lib.hid hmwm
            have HW := Lib.hid hW
            have Hxj := Lib.hid hxj
            have Hqj := Lib.hid hqj
            have Hqm := Lib.hid hqm
            have Hx0 := Lib.hid hx0
            have HgR := Lib.hid hgR
            have Hgq := Lib.hid hgq
            have Hgk := Lib.hid hgk
            have Hz0 := Lib.hid hz0
            have Hqo := Lib.hid hqo
            have Hqc := Lib.hid hqc
            have HAs := Lib.hid hAs
            have Hcx := Lib.hid hcx
            have Hxr := Lib.hid hxr
            have Hwv := Lib.hid hwv
            have Hmwv := Lib.hid hmwv
            have Hgwv := Lib.hid hgwv
            have Hxr2 := Lib.hid hxr2
            have Hmw2v := Lib.hid hmw2v
            have Hpr := Lib.hid hpr
            have Hky := Lib.hid hky
            clear hmm hm4m hmwm hW hxj hqj hqm hx0 hgR hgq hgk hz0 hqo hqc hAs hcx hxr hwv hmwv hgwv hxr2 hmw2v hpr hky hzwv hkl0
            go_wp2_with (first | ((with_reducible refine wpList_load_lit 29 (.tmp 88) ?_); refine ⟨sg, soff + j * 2, rfl, x.cells, Hcx.out, by kernel_rfl, by kernel_rfl, ?_⟩) | ((with_reducible refine wpList_store_lit 29 (.tmp 18) (.tmp 89) ?_); refine ⟨rfl, [.string x.sc, .slice x.a x.cs.length x.c], rfl, rfl, by kernel_rfl, rfl, ?_⟩; rw [Hwv.out]) | fail)
            refine Hpr.out.mono ?_
            rintro e wp ⟨rfl, hmp⟩
            have hm7p := (Hmm.out.trans Hmwv.out (fun _ _ h => h)).trans hmp (fun _ _ h => h)
            have hmwp := Hmw2v.out.trans hmp (fun _ _ h => h)
            have hinp := (Hga7.out.mod hm7p (fun h => h)).m
            obtain ⟨s1, fa, fn, fc, hlk, hlf⟩ := hinp.look hkl
            rw [HAs.out] at hlk
            obtain ⟨wq, hwq⟩ : ∃ wq : World, wp.alloc (.cells #[.string s1, .slice fa fn fc] 29) = wq := ⟨_, rfl⟩
            have hmwq : Mod (fun _ => False) wp wq := hwq ▸ (Mod.refl (fun _ => False) wp).alloc _
            have hgwq := heap_alloc_new wp (.cells #[.string s1, .slice fa fn fc] 29)
            rw [hwq] at hgwq
            have hzwq : wq.heap.size = wp.heap.size + 1 := by rw [← hwq]; simp
            have hm7q := hm7p.trans hmwq (fun _ _ h => h)
            have hmwq' := hmwp.trans hmwq (fun _ _ h => h)
            have hgvq := (hmp.trans hmwq (fun _ _ h => h)).heap Hgwv.out (fun h => h)
            have hsk : (str key).toList = key := by rw [ByteArray.toList_eq]; simp [str]
            have Hmp := Lib.hid hmp
            have Hm7p := Lib.hid hm7p
            have Hmwp := Lib.hid hmwp
            have Hinp := Lib.hid hinp
            have Hlf := Lib.hid hlf
            have Hwq := Lib.hid hwq
            have Hmwq := Lib.hid hmwq
            have Hgwq := Lib.hid hgwq
            have Hm7q := Lib.hid hm7q
            have Hmwq' := Lib.hid hmwq'
            have Hgvq := Lib.hid hgvq
            clear hmp hm7p hmwp hinp hlf hwq hmwq hgwq hm7q hmwq' hgvq hzwq
            by_cases hj0 : j = 0
            · subst hj0
              go_wp2_with (first | ((with_reducible refine wpList_store_lit 29 (.tmp 20) (.tmp 96) ?_); refine ⟨rfl, [.string s1, .slice fa fn fc], rfl, rfl, by kernel_rfl, rfl, ?_⟩; rw [Hwq.out]) | fail)
              obtain ⟨wz, hwz⟩ : ∃ wz, wq = wz := ⟨_, rfl⟩
              have HmZ := Hm7q
              have Hgvz := Hgvq
              rw [hwz] at HmZ Hgvz ⊢
              have hm4z := Hm47.out.trans HmZ.out (fun _ _ h => h)
              have hmwz := Hmw4.out.trans hm4z (fun _ _ h => h)
              have hrelI : OiRel wz G.length (.int .i64 ((0 : Nat) : Int)) wz := ⟨0, rfl, Nat.zero_le _, Mod.refl _ _⟩
              have Hm4z := Lib.hid hm4z
              have Hmwz := Lib.hid hmwz
              have HrelI := Lib.hid hrelI
              clear hm4z hmwz hrelI
              go_wp2_with fail
              go_loopw [116] (fun iv wr => OiRel wz G.length iv wr) (fun i _ => G.length - (intOf i).toNat)
              case atStart => exact HrelI.out
              case round =>
                revert wr
                intro wi hrel
                obtain ⟨i, rfl, hi, hmi⟩ := hrel
                have hm7i := HmZ.out.trans hmi (fun _ _ h => h)
                have hmwi := Hmwz.out.trans hmi (fun _ _ h => h)
                have u2 : wi.cell? ⟨wm.heap.size, 0, none⟩ = some (.string x.sc) := cell_of (hmi.heap Hgvz.out (fun h => h)) rfl
                have u3 : wi.cell? ⟨wm.heap.size, 1, none⟩ = some (.slice x.a x.cs.length x.c) := cell_of (hmi.heap Hgvz.out (fun h => h)) rfl
                by_cases hil : i < G.length
                · have hil' : (i : Int) < G.length := by omega
                  obtain ⟨y, hyi⟩ : ∃ y, G[i]? = some y := ⟨_, List.getElem?_eq_getElem hil⟩
                  have hqi : Q[i]? = some y.fil := by rw [← HG.out, List.getElem?_map, hyi]; rfl
                  have hyq : y.fil ∈ outL (refM R) td := by rw [HQ.out]; exact List.mem_of_getElem? hqi
                  obtain ⟨zy, hzy⟩ := out_mem hyq
                  have hyo : okQ y.fil := refM_okQ Hfa4.out.ok _ hzy
                  have hyc : okCs y.cs := refM_tabOk Hfa4.out.ok _ hzy
                  obtain ⟨tg, toff, eg, hcy⟩ : ∃ g off, (some ⟨sg, soff, none⟩ : Option Addr) = some ⟨g, off, none⟩ ∧ CellsAt wi g (off + i * 2) y.cells := rd_el (f := Fr.cells) (sz := 2) (fun _ => rfl) (Hog.out.mod hm7i (fun _ _ h => h)).rd hyi
                  cases eg
                  obtain ⟨wj, hwj⟩ : ∃ wj : World, wi.alloc (.cells #[.string y.sc, .slice y.a y.cs.length y.c] 29) = wj := ⟨_, rfl⟩
                  have hmwj : Mod (fun _ => False) wi wj := hwj ▸ (Mod.refl (fun _ => False) wi).alloc _
                  have hgwj := heap_alloc_new wi (.cells #[.string y.sc, .slice y.a y.cs.length y.c] 29)
                  rw [hwj] at hgwj
                  have hzwj : wj.heap.size = wi.heap.size + 1 := by rw [← hwj]; simp
                  have hm7j := hm7i.trans hmwj (fun _ _ h => h)
                  have hmzj := hmi.trans hmwj (fun _ _ h => h)
                  have y2 : wj.cell? ⟨wi.heap.size, 0, none⟩ = some (.string y.sc) := cell_of hgwj rfl
                  have y3 : wj.cell? ⟨wi.heap.size, 1, none⟩ = some (.slice y.a y.cs.length y.c) := cell_of hgwj rfl
                  have q2 : wj.cell? ⟨wm.heap.size, 0, none⟩ = some (.string x.sc) := cell_of ((hmi.trans hmwj (fun _ _ h => h)).heap Hgvz.out (fun h => h)) rfl
                  have q3 : wj.cell? ⟨wm.heap.size, 1, none⟩ = some (.slice x.a x.cs.length x.c) := cell_of ((hmi.trans hmwj (fun _ _ h => h)).heap Hgvz.out (fun h => h)) rfl
                  by_cases hij : i = 0
                  · subst hij
                    have Hyi := Lib.hid hyi
                    have Hqi := Lib.hid hqi
                    have Hyq := Lib.hid hyq
                    have Hzy := Lib.hid hzy
                    have Hyo := Lib.hid hyo
                    have Hyc := Lib.hid hyc
                    have Hcy := Lib.hid hcy
                    have Hwj := Lib.hid hwj
                    have Hmwj := Lib.hid hmwj
                    have Hgwj := Lib.hid hgwj
                    have Hm7j := Lib.hid hm7j
                    have Hmzj := Lib.hid hmzj
                    have Hm7i := Lib.hid hm7i
                    have Hmwi := Lib.hid hmwi
                    clear hyi hqi hyq hzy hyo hyc hcy hwj hmwj hgwj hm7j hmzj hm7i hmwi hzwj
                    go_wp2_with (first | ((with_reducible refine wpList_load_lit 29 (.tmp 119) ?_); refine ⟨sg, soff + (0) * 2, rfl, y.cells, Hcy.out, by kernel_rfl, by kernel_rfl, ?_⟩) | ((with_reducible refine wpList_store_lit 29 (.tmp 23) (.tmp 120) ?_); refine ⟨rfl, [.string y.sc, .slice y.a y.cs.length y.c], rfl, rfl, by kernel_rfl, rfl, ?_⟩; rw [Hwj.out]) | fail)
                    go_roundw
                    case rel => exact ⟨0 + 1, by go_num, hil, Hmzj.out⟩
                    case measure => simp [intOf]; omega
                  · have hne : keyF y.fil ≠ keyF x.fil := fun e => by
                      have h0 := outL_lt (refM R) td
                      rw [HQ.out] at h0
                      obtain ⟨i1, e1⟩ := List.getElem?_eq_some_iff.1 hqi
                      obtain ⟨i2, e2⟩ := List.getElem?_eq_some_iff.1 Hqj.out
                      rcases Nat.lt_or_gt_of_ne hij with h3 | h3
                      · have h4 := List.pairwise_iff_getElem.1 h0 _ _ i1 i2 h3
                        rw [e1, e2, e] at h4
                        exact absurd h4 (List.lt_irrefl _)
                      · have h4 := List.pairwise_iff_getElem.1 h0 _ _ i2 i1 h3
                        rw [e1, e2, e] at h4
                        exact absurd h4 (List.lt_irrefl _)
                    have hcv := rcov_at wj y x ((HGc.out y (List.mem_of_getElem? hyi)).1.mod hm7j (fun _ _ h => h)).rd ((HGc.out x (List.mem_of_getElem? Hxj.out)).1.mod hm7j (fun _ _ h => h)).rd hyo Hqo.out hyc Hqc.out
                    rw [outL_apart Hqm.out hyq hne] at hcv
                    have hij' : ¬ ((i : Int) = ((0 : Nat) : Int)) := by omega
                    have Hyi := Lib.hid hyi
                    have Hqi := Lib.hid hqi
                    have Hyq := Lib.hid hyq
                    have Hzy := Lib.hid hzy
                    have Hyo := Lib.hid hyo
                    have Hyc := Lib.hid hyc
                    have Hcy := Lib.hid hcy
                    have Hwj := Lib.hid hwj
                    have Hmwj := Lib.hid hmwj
                    have Hgwj := Lib.hid hgwj
                    have Hm7j := Lib.hid hm7j
                    have Hmzj := Lib.hid hmzj
                    have Hcv := Lib.hid hcv
                    have Hne := Lib.hid hne
                    have Hm7i := Lib.hid hm7i
                    have Hmwi := Lib.hid hmwi
                    clear hyi hqi hyq hzy hyo hyc hcy hwj hmwj hgwj hm7j hmzj hcv hne hm7i hmwi hzwj
                    go_wp2_with (first | ((with_reducible refine wpList_load_lit 29 (.tmp 119) ?_); refine ⟨sg, soff + i * 2, rfl, y.cells, Hcy.out, by kernel_rfl, by kernel_rfl, ?_⟩) | ((with_reducible refine wpList_store_lit 29 (.tmp 23) (.tmp 120) ?_); refine ⟨rfl, [.string y.sc, .slice y.a y.cs.length y.c], rfl, rfl, by kernel_rfl, rfl, ?_⟩; rw [Hwj.out]) | fail)
                    refine Hcv.out.mono ?_
                    rintro e wk ⟨rfl, hmk⟩
                    have hmzk := Hmzj.out.trans hmk (fun _ _ h => h)
                    have Hmk := Lib.hid hmk
                    have Hmzk := Lib.hid hmzk
                    clear hmk hmzk
                    go_wp2_with fail
                    go_roundw
                    case rel => exact ⟨i + 1, by go_num, hil, Hmzk.out⟩
                    case measure => simp [intOf]; omega
                · obtain rfl : i = G.length := by omega
                  have hgi := (Hm4z.out.trans hmi (fun _ _ h => h)).heap Hg4.out (fun h => h)
                  have u5 : wi.cell? ⟨w.heap.size, 0, none⟩ = some (.string S) := cell_of hgi rfl
                  have u6 : wi.cell? ⟨w.heap.size, 1, none⟩ = some (.slice na E.length nc) := cell_of hgi rfl
                  have hmt := rmq_at wi x ((HGc.out x (List.mem_of_getElem? Hxj.out)).1.mod hm7i (fun _ _ h => h)).rd Hqo.out S hS52 (.slice na E.length nc) E (Hrd4.out.mod (Hm4z.out.trans hmi (fun _ _ h => h)) (fun _ _ h => h)) hEl HEs.out
                  have hst := any_step Hqj.out (fun q => rMatF q S E)
                  rw [HW.out] at hst
                  cases W with
                  | true =>
                    have Hmt := Lib.hid hmt
                    have Hst := Lib.hid hst
                    have Hm7i := Lib.hid hm7i
                    have Hmwi := Lib.hid hmwi
                    have Hmi := Lib.hid hmi
                    clear hmt hst hm7i hmwi hmi
                    go_wp2_with fail
                    go_roundw
                    case rel => exact ⟨0 + 1, by go_num, by have := HG6.out; omega, by rw [Hst.out]; rfl, Hm7i.out⟩
                    case measure => simp [intOf]; omega
                  | false =>
                    have Hmt := Lib.hid hmt
                    have Hst := Lib.hid hst
                    have Hm7i := Lib.hid hm7i
                    have Hmwi := Lib.hid hmwi
                    have Hmi := Lib.hid hmi
                    clear hmt hst hm7i hmwi hmi
                    go_wp2_with fail
                    refine Hmt.out.mono ?_
                    rintro e wy ⟨rfl, hmy⟩
                    have hm7y := Hm7i.out.trans hmy (fun _ _ h => h)
                    have Hmy := Lib.hid hmy
                    have Hm7y := Lib.hid hm7y
                    clear hmy hm7y
                    go_wp2_with fail
                    go_roundw
                    case rel => exact ⟨0 + 1, by go_num, by have := HG6.out; omega, by rw [Hst.out]; rfl, Hm7y.out⟩
                    case measure => simp [intOf]; omega
            · obtain ⟨k, rfl⟩ : ∃ k, j = k + 1 := ⟨j - 1, by omega⟩
              obtain ⟨x1, hx1⟩ : ∃ x1, G[k]? = some x1 := ⟨_, List.getElem?_eq_getElem (by omega)⟩
              have hq0 : Q[k]? = some x1.fil := by rw [← HG.out, List.getElem?_map, hx1]; rfl
              have hltk : keyF x1.fil < key := by
                have h0 := outL_lt (refM R) td
                rw [HQ.out] at h0
                obtain ⟨i1, e1⟩ := List.getElem?_eq_some_iff.1 hq0
                obtain ⟨i2, e2⟩ := List.getElem?_eq_some_iff.1 Hqj.out
                have h1 := List.pairwise_iff_getElem.1 h0 k (k + 1) i1 i2 (by omega)
                rw [e1, e2] at h1
                rw [← Hky.out]
                exact h1
              have hbl : Op.bytesLess (keyF x1.fil) key = true := by rw [Go.Proofs.bytesLess_eq]; exact decide_eq_true hltk
              have hs0 : (str (keyF x1.fil)).toList = keyF x1.fil := by rw [ByteArray.toList_eq]; simp [str]
              have hk0 : decide ((0 : Int) < ((k + 1 : Nat) : Int)) = true := decide_eq_true (by omega)
              have hx1q : x1.fil ∈ outL (refM R) td := by rw [HQ.out]; exact List.mem_of_getElem? hq0
              obtain ⟨z1, hz1⟩ := out_mem hx1q
              have h1o : okQ x1.fil := refM_okQ Hfa4.out.ok _ hz1
              obtain ⟨tg, toff, eg, hc1⟩ : ∃ g off, (some ⟨sg, soff, none⟩ : Option Addr) = some ⟨g, off, none⟩ ∧ CellsAt wq g (off + k * 2) x1.cells := rd_el (f := Fr.cells) (sz := 2) (fun _ => rfl) (Hog.out.mod Hm7q.out (fun _ _ h => h)).rd hx1
              cases eg
              have hp1 : Calls Tryz.prog 29 #[.agg #[.string x1.sc, .slice x1.a x1.cs.length x1.c]] wq fun e w' => e = .returned (.string (str (keyF x1.fil))) ∧ Mod (fun _ => False) wq w' :=
                fprint_at w wq (Hl0.out.mod0 Hmwq'.out) x1.sc (.slice x1.a x1.cs.length x1.c) x1.cs ((HGc.out x1 (List.mem_of_getElem? hx1)).1.mod Hm7q.out (fun _ _ h => h)).rd (Nat.le_trans h1o.1 (by decide)) h1o.2.2 h1o.2.1
              have Hx1 := Lib.hid hx1
              have Hq0 := Lib.hid hq0
              have Hltk := Lib.hid hltk
              have Hx1q := Lib.hid hx1q
              have Hz1 := Lib.hid hz1
              have H1o := Lib.hid h1o
              have Hc1 := Lib.hid hc1
              have Hp1 := Lib.hid hp1
              clear hx1 hq0 hltk hx1q hz1 h1o hc1 hp1
              go_wp2_with (first | ((with_reducible refine wpList_store_lit 29 (.tmp 20) (.tmp 96) ?_); refine ⟨rfl, [.string s1, .slice fa fn fc], rfl, rfl, by kernel_rfl, rfl, ?_⟩; rw [Hwq.out]) | ((with_reducible refine wpList_yes_load 29 (.tmp 107) ?_ ?_); rfl) | ((with_reducible refine wpList_load_lit 29 (.tmp 107) ?_); refine ⟨sg, soff + k * 2, rfl, x1.cells, Hc1.out, by kernel_rfl, by kernel_rfl, ?_⟩) | fail)
              refine Hp1.out.mono ?_
              rintro e wz ⟨rfl, hmz⟩
              have HmZ := Lib.hid (Hm7q.out.trans hmz (fun _ _ h => h))
              have Hgvz := Lib.hid (hmz.heap Hgvq.out (fun h => h))
              clear hmz
              have hm4z := Hm47.out.trans HmZ.out (fun _ _ h => h)
              have hmwz := Hmw4.out.trans hm4z (fun _ _ h => h)
              have hrelI : OiRel wz G.length (.int .i64 ((0 : Nat) : Int)) wz := ⟨0, rfl, Nat.zero_le _, Mod.refl _ _⟩
              have Hm4z := Lib.hid hm4z
              have Hmwz := Lib.hid hmwz
              have HrelI := Lib.hid hrelI
              clear hm4z hmwz hrelI
              go_wp2_with fail
              go_loopw [116] (fun iv wr => OiRel wz G.length iv wr) (fun i _ => G.length - (intOf i).toNat)
              case atStart => exact HrelI.out
              case round =>
                revert wr
                intro wi hrel
                obtain ⟨i, rfl, hi, hmi⟩ := hrel
                have hm7i := HmZ.out.trans hmi (fun _ _ h => h)
                have hmwi := Hmwz.out.trans hmi (fun _ _ h => h)
                have u2 : wi.cell? ⟨wm.heap.size, 0, none⟩ = some (.string x.sc) := cell_of (hmi.heap Hgvz.out (fun h => h)) rfl
                have u3 : wi.cell? ⟨wm.heap.size, 1, none⟩ = some (.slice x.a x.cs.length x.c) := cell_of (hmi.heap Hgvz.out (fun h => h)) rfl
                by_cases hil : i < G.length
                · have hil' : (i : Int) < G.length := by omega
                  obtain ⟨y, hyi⟩ : ∃ y, G[i]? = some y := ⟨_, List.getElem?_eq_getElem hil⟩
                  have hqi : Q[i]? = some y.fil := by rw [← HG.out, List.getElem?_map, hyi]; rfl
                  have hyq : y.fil ∈ outL (refM R) td := by rw [HQ.out]; exact List.mem_of_getElem? hqi
                  obtain ⟨zy, hzy⟩ := out_mem hyq
                  have hyo : okQ y.fil := refM_okQ Hfa4.out.ok _ hzy
                  have hyc : okCs y.cs := refM_tabOk Hfa4.out.ok _ hzy
                  obtain ⟨tg, toff, eg, hcy⟩ : ∃ g off, (some ⟨sg, soff, none⟩ : Option Addr) = some ⟨g, off, none⟩ ∧ CellsAt wi g (off + i * 2) y.cells := rd_el (f := Fr.cells) (sz := 2) (fun _ => rfl) (Hog.out.mod hm7i (fun _ _ h => h)).rd hyi
                  cases eg
                  obtain ⟨wj, hwj⟩ : ∃ wj : World, wi.alloc (.cells #[.string y.sc, .slice y.a y.cs.length y.c] 29) = wj := ⟨_, rfl⟩
                  have hmwj : Mod (fun _ => False) wi wj := hwj ▸ (Mod.refl (fun _ => False) wi).alloc _
                  have hgwj := heap_alloc_new wi (.cells #[.string y.sc, .slice y.a y.cs.length y.c] 29)
                  rw [hwj] at hgwj
                  have hzwj : wj.heap.size = wi.heap.size + 1 := by rw [← hwj]; simp
                  have hm7j := hm7i.trans hmwj (fun _ _ h => h)
                  have hmzj := hmi.trans hmwj (fun _ _ h => h)
                  have y2 : wj.cell? ⟨wi.heap.size, 0, none⟩ = some (.string y.sc) := cell_of hgwj rfl
                  have y3 : wj.cell? ⟨wi.heap.size, 1, none⟩ = some (.slice y.a y.cs.length y.c) := cell_of hgwj rfl
                  have q2 : wj.cell? ⟨wm.heap.size, 0, none⟩ = some (.string x.sc) := cell_of ((hmi.trans hmwj (fun _ _ h => h)).heap Hgvz.out (fun h => h)) rfl
                  have q3 : wj.cell? ⟨wm.heap.size, 1, none⟩ = some (.slice x.a x.cs.length x.c) := cell_of ((hmi.trans hmwj (fun _ _ h => h)).heap Hgvz.out (fun h => h)) rfl
                  by_cases hij : i = k + 1
                  · subst hij
                    have Hyi := Lib.hid hyi
                    have Hqi := Lib.hid hqi
                    have Hyq := Lib.hid hyq
                    have Hzy := Lib.hid hzy
                    have Hyo := Lib.hid hyo
                    have Hyc := Lib.hid hyc
                    have Hcy := Lib.hid hcy
                    have Hwj := Lib.hid hwj
                    have Hmwj := Lib.hid hmwj
                    have Hgwj := Lib.hid hgwj
                    have Hm7j := Lib.hid hm7j
                    have Hmzj := Lib.hid hmzj
                    have Hm7i := Lib.hid hm7i
                    have Hmwi := Lib.hid hmwi
                    clear hyi hqi hyq hzy hyo hyc hcy hwj hmwj hgwj hm7j hmzj hm7i hmwi hzwj
                    go_wp2_with (first | ((with_reducible refine wpList_load_lit 29 (.tmp 119) ?_); refine ⟨sg, soff + (k + 1) * 2, rfl, y.cells, Hcy.out, by kernel_rfl, by kernel_rfl, ?_⟩) | ((with_reducible refine wpList_store_lit 29 (.tmp 23) (.tmp 120) ?_); refine ⟨rfl, [.string y.sc, .slice y.a y.cs.length y.c], rfl, rfl, by kernel_rfl, rfl, ?_⟩; rw [Hwj.out]) | fail)
                    go_roundw
                    case rel => exact ⟨k + 1 + 1, by go_num, hil, Hmzj.out⟩
                    case measure => simp [intOf]; omega
                  · have hne : keyF y.fil ≠ keyF x.fil := fun e => by
                      have h0 := outL_lt (refM R) td
                      rw [HQ.out] at h0
                      obtain ⟨i1, e1⟩ := List.getElem?_eq_some_iff.1 hqi
                      obtain ⟨i2, e2⟩ := List.getElem?_eq_some_iff.1 Hqj.out
                      rcases Nat.lt_or_gt_of_ne hij with h3 | h3
                      · have h4 := List.pairwise_iff_getElem.1 h0 _ _ i1 i2 h3
                        rw [e1, e2, e] at h4
                        exact absurd h4 (List.lt_irrefl _)
                      · have h4 := List.pairwise_iff_getElem.1 h0 _ _ i2 i1 h3
                        rw [e1, e2, e] at h4
                        exact absurd h4 (List.lt_irrefl _)
                    have hcv := rcov_at wj y x ((HGc.out y (List.mem_of_getElem? hyi)).1.mod hm7j (fun _ _ h => h)).rd ((HGc.out x (List.mem_of_getElem? Hxj.out)).1.mod hm7j (fun _ _ h => h)).rd hyo Hqo.out hyc Hqc.out
                    rw [outL_apart Hqm.out hyq hne] at hcv
                    have hij' : ¬ ((i : Int) = ((k + 1 : Nat) : Int)) := by omega
                    have Hyi := Lib.hid hyi
                    have Hqi := Lib.hid hqi
                    have Hyq := Lib.hid hyq
                    have Hzy := Lib.hid hzy
                    have Hyo := Lib.hid hyo
                    have Hyc := Lib.hid hyc
                    have Hcy := Lib.hid hcy
                    have Hwj := Lib.hid hwj
                    have Hmwj := Lib.hid hmwj
                    have Hgwj := Lib.hid hgwj
                    have Hm7j := Lib.hid hm7j
                    have Hmzj := Lib.hid hmzj
                    have Hcv := Lib.hid hcv
                    have Hne := Lib.hid hne
                    have Hm7i := Lib.hid hm7i
                    have Hmwi := Lib.hid hmwi
                    clear hyi hqi hyq hzy hyo hyc hcy hwj hmwj hgwj hm7j hmzj hcv hne hm7i hmwi hzwj
                    go_wp2_with (first | ((with_reducible refine wpList_load_lit 29 (.tmp 119) ?_); refine ⟨sg, soff + i * 2, rfl, y.cells, Hcy.out, by kernel_rfl, by kernel_rfl, ?_⟩) | ((with_reducible refine wpList_store_lit 29 (.tmp 23) (.tmp 120) ?_); refine ⟨rfl, [.string y.sc, .slice y.a y.cs.length y.c], rfl, rfl, by kernel_rfl, rfl, ?_⟩; rw [Hwj.out]) | fail)
                    refine Hcv.out.mono ?_
                    rintro e wk ⟨rfl, hmk⟩
                    have hmzk := Hmzj.out.trans hmk (fun _ _ h => h)
                    have Hmk := Lib.hid hmk
                    have Hmzk := Lib.hid hmzk
                    clear hmk hmzk
                    go_wp2_with fail
                    go_roundw
                    case rel => exact ⟨i + 1, by go_num, hil, Hmzk.out⟩
                    case measure => simp [intOf]; omega
                · obtain rfl : i = G.length := by omega
                  have hgi := (Hm4z.out.trans hmi (fun _ _ h => h)).heap Hg4.out (fun h => h)
                  have u5 : wi.cell? ⟨w.heap.size, 0, none⟩ = some (.string S) := cell_of hgi rfl
                  have u6 : wi.cell? ⟨w.heap.size, 1, none⟩ = some (.slice na E.length nc) := cell_of hgi rfl
                  have hmt := rmq_at wi x ((HGc.out x (List.mem_of_getElem? Hxj.out)).1.mod hm7i (fun _ _ h => h)).rd Hqo.out S hS52 (.slice na E.length nc) E (Hrd4.out.mod (Hm4z.out.trans hmi (fun _ _ h => h)) (fun _ _ h => h)) hEl HEs.out
                  have hst := any_step Hqj.out (fun q => rMatF q S E)
                  rw [HW.out] at hst
                  cases W with
                  | true =>
                    have Hmt := Lib.hid hmt
                    have Hst := Lib.hid hst
                    have Hm7i := Lib.hid hm7i
                    have Hmwi := Lib.hid hmwi
                    have Hmi := Lib.hid hmi
                    clear hmt hst hm7i hmwi hmi
                    go_wp2_with fail
                    go_roundw
                    case rel => exact ⟨k + 1 + 1, by go_num, by have := HG6.out; omega, by rw [Hst.out]; rfl, Hm7i.out⟩
                    case measure => simp [intOf]; omega
                  | false =>
                    have Hmt := Lib.hid hmt
                    have Hst := Lib.hid hst
                    have Hm7i := Lib.hid hm7i
                    have Hmwi := Lib.hid hmwi
                    have Hmi := Lib.hid hmi
                    clear hmt hst hm7i hmwi hmi
                    go_wp2_with fail
                    refine Hmt.out.mono ?_
                    rintro e wy ⟨rfl, hmy⟩
                    have hm7y := Hm7i.out.trans hmy (fun _ _ h => h)
                    have Hmy := Lib.hid hmy
                    have Hm7y := Lib.hid hm7y
                    clear hmy hm7y
                    go_wp2_with fail
                    go_roundw
                    case rel => exact ⟨k + 1 + 1, by go_num, by have := HG6.out; omega, by rw [Hst.out]; rfl, Hm7y.out⟩
                    case measure => simp [intOf]; omega
          · have hQG := HG6.out
            obtain rfl : j = G.length := by omega
            have hW2 : (Q.any fun q => rMatF q S E) = W := by rw [← hW, hQG, List.take_length]
            clear hQG
            have hgm := Hga7.out.mod hmm (fun h => h)
            obtain ⟨nA, fA, hA1, hA2⟩ := hgm.m
            have Hmm := Lib.hid hmm
            have Hm4m := Lib.hid hm4m
            have Hmwm := Lib.hid hmwm
            have HW := Lib.hid hW
            have HW2 := Lib.hid hW2
            have Hgm := Lib.hid hgm
            have HA1 := Lib.hid hA1
            have HA2 := Lib.hid hA2
            clear hmm hm4m hmwm hW hW2 hgm hA1 hA2
            go_wp2_with (first | ((at_range; refine wpList_range_R rfl _ 61 rfl 9 29 keyed_s Tryz.underlying61 w4.heap.size nA fA rfl HA1.out ?_; intro wH hrgH hmH hzH)) | fail)
            have hrelc : OcRel wm w4.heap.size wm.heap.size fA wH := ⟨_, _, hrgH, hmH⟩
            have Hrelc := Lib.hid hrelc
            have HrgH := Lib.hid hrgH
            have HmH := Lib.hid hmH
            clear hrelc hrgH hmH hzH
            go_frame
            go_loopw [139] (fun _ wr => OcRel wm w4.heap.size wm.heap.size fA wr) (fun _ wr => wr.rangeLeft w4.heap.size wm.heap.size)
            case atStart => exact Hrelc.out
            case round =>
              revert wr
              intro wc hrel
              obtain ⟨leftc, cntc, hrgc, hmc⟩ := hrel
              have Hmc := Lib.hid hmc
              clear hmc
              go_wp2_with (first | ((at_next; refine wpList_next_R rfl _ rfl 9 keyed_s encStr Lit.string (inv_s _ Tryz.underlying9) (in_s _ Tryz.underlying9) w4.heap.size wm.heap.size fA leftc cntc rfl hrgc ?_ ?_)) | fail)
              · intro hlc
                have hmwc := Hmwm.out.trans Hmc.out (fun _ _ h => h)
                have Hrgc := Lib.hid hrgc
                have Hlc := Lib.hid hlc
                have Hmwc := Lib.hid hmwc
                clear hrgc hlc hmwc
                go_wp2_with fail
                go_ret
                exact ⟨rfl, Hmwc.out⟩
              · intro k cv wd cntd hkeyd hlkd hfcd hrgd hltd hmd hzd hend
                obtain ⟨g, hgk, rfl⟩ : ∃ g, A k = some g ∧ cv = .agg #[.string g.sc, .slice g.a g.cs.length g.c] := by
                  rw [HA2.out k] at hfcd
                  obtain ⟨g, h1, h2⟩ := Option.map_eq_some_iff.1 hfcd
                  exact ⟨g, h1, h2.symm⟩
                obtain ⟨x0, hx0, hx0r⟩ := Hgm.out.a k g hgk
                obtain ⟨hgR, hgkk⟩ := refF_some hx0r
                have hgo := Hfa4.out.ok _ hgR
                have hgq : okQ g.fil := ref_okQ Hfa4.out.ok hgR
                have hgc : okCs g.cs := ref_okCs Hfa4.out.ok hgR
                obtain ⟨we, hwe⟩ : ∃ we : World, wd.alloc (.cells #[.string g.sc, .slice g.a g.cs.length g.c] 29) = we := ⟨_, rfl⟩
                have hmwe : Mod (fun _ => False) wd we := hwe ▸ (Mod.refl (fun _ => False) wd).alloc _
                have hgwe := heap_alloc_new wd (.cells #[.string g.sc, .slice g.a g.cs.length g.c] 29)
                rw [hwe] at hgwe
                have hzwe : we.heap.size = wd.heap.size + 1 := by rw [← hwe]; simp
                have hmmd : Mod (fun _ => False) wm wd := Hmc.out.upon hmd (fun k hk => .inr (Nat.le_of_eq (Eq.symm hk)))
                have hmme := hmmd.trans hmwe (fun _ _ h => h)
                have hm7e := Hmm.out.trans hmme (fun _ _ h => h)
                have hmwe' := Hmwm.out.trans hmme (fun _ _ h => h)
                have hrge := hrgd.mod hmwe (fun h => h) (fun h => h)
                have hreld : OdRel we Q k g.fil (.bool false) (.int .i64 ((0 : Nat) : Int)) we := ⟨0, rfl, Nat.zero_le _, rfl, Mod.refl _ _⟩
                have hcovq : (Q.any fun q => keyF q == k || covQ q g.fil) = true := by
                  obtain ⟨o, ho, hc⟩ := out_cov Hfa4.out.ok hgR hx0
                  rw [HQ.out] at ho
                  exact List.any_eq_true.2 ⟨o, ho, by rw [hc, Bool.or_true]⟩
                have htells : rMatF g.fil S E = true → W = true := fun h => by
                  have h1 := out_tells Hfa4.out.ok hgR hx0 HEr.out h
                  rw [HQ.out, HW2.out] at h1
                  exact h1
                have hkw : k.length ≤ maxLen := by
                  have h4 := filPrt_len g.sc (normC g.cs) (normC_fits hgq.2.1)
                  have h5 : filPrt g.sc (normC g.cs) = k := hgkk
                  have h6 := normC_len g.cs
                  have h7 : g.cs.length ≤ 19 := hgq.1
                  have h8 : g.sc.size ≤ 1000000 := hgq.2.2
                  rw [h5] at h4
                  unfold maxLen
                  omega
                have hskk : (str k).toList = k := by rw [ByteArray.toList_eq]; simp [str]
                have Hkeyd := Lib.hid hkeyd
                have Hlkd := Lib.hid hlkd
                have Hfcd := Lib.hid hfcd
                have Hrgc := Lib.hid hrgc
                have Hrgd := Lib.hid hrgd
                have Hmd := Lib.hid hmd
                have Hzd := Lib.hid hzd
                have Hgk := Lib.hid hgk
                have Hx0 := Lib.hid hx0
                have Hx0r := Lib.hid hx0r
                have HgR := Lib.hid hgR
                have Hgkk := Lib.hid hgkk
                have Hgo := Lib.hid hgo
                have Hgq := Lib.hid hgq
                have Hgc := Lib.hid hgc
                have Hwe := Lib.hid hwe
                have Hmwe := Lib.hid hmwe
                have Hmmd := Lib.hid hmmd
                have Hmme := Lib.hid hmme
                have Hm7e := Lib.hid hm7e
                have Hmwe' := Lib.hid hmwe'
                have Hrge := Lib.hid hrge
                have Hreld := Lib.hid hreld
                have Hcovq := Lib.hid hcovq
                have Htells := Lib.hid htells
                have Hgwe := Lib.hid hgwe
                clear hkeyd hlkd hfcd hrgc hrgd hmd hzd hgk hx0 hx0r hgR hgkk hgo hgq hgc hwe hmwe hmmd hmme hm7e hmwe' hrge hreld hcovq htells hgwe hzwe
                go_wp2_with (first | ((with_reducible refine wpList_store_lit 29 (.tmp 25) (.tmp 143) ?_); refine ⟨rfl, [.string g.sc, .slice g.a g.cs.length g.c], rfl, rfl, by kernel_rfl, rfl, ?_⟩; rw [Hwe.out]) | fail)
                go_loopw [26, 146] (fun cv iv wr => OdRel we Q k g.fil cv iv wr) (fun _ i _ => G.length - (intOf i).toNat)
                case atStart => exact Hreld.out
                case round =>
                  revert wr
                  intro wf hrel
                  obtain ⟨i, rfl, hi, rfl, hmf⟩ := hrel
                  have hm7f := Hm7e.out.trans hmf (fun _ _ h => h)
                  have hmwf := Hmwe'.out.trans hmf (fun _ _ h => h)
                  obtain ⟨V, hV⟩ : ∃ V, ((Q.take i).any fun q => keyF q == k || covQ q g.fil) = V := ⟨_, rfl⟩
                  rw [hV]
                  by_cases hil : i < G.length
                  · have hil' : (i : Int) < G.length := by omega
                    obtain ⟨y, hyi⟩ : ∃ y, G[i]? = some y := ⟨_, List.getElem?_eq_getElem hil⟩
                    have hqi : Q[i]? = some y.fil := by rw [← HG.out, List.getElem?_map, hyi]; rfl
                    have hyq : y.fil ∈ outL (refM R) td := by rw [HQ.out]; exact List.mem_of_getElem? hqi
                    obtain ⟨zy, hzy⟩ := out_mem hyq
                    have hyo : okQ y.fil := refM_okQ Hfa4.out.ok _ hzy
                    obtain ⟨sg, soff, rfl, hcy⟩ : ∃ g off, ga = some ⟨g, off, none⟩ ∧ CellsAt wf g (off + i * 2) y.cells := rd_el (f := Fr.cells) (sz := 2) (fun _ => rfl) (Hog.out.mod hm7f (fun _ _ h => h)).rd hyi
                    obtain ⟨wg, hwg⟩ : ∃ wg : World, wf.alloc (.cells #[.string y.sc, .slice y.a y.cs.length y.c] 29) = wg := ⟨_, rfl⟩
                    have hmwg : Mod (fun _ => False) wf wg := hwg ▸ (Mod.refl (fun _ => False) wf).alloc _
                    have hgwg := heap_alloc_new wf (.cells #[.string y.sc, .slice y.a y.cs.length y.c] 29)
                    rw [hwg] at hgwg
                    have hzwg : wg.heap.size = wf.heap.size + 1 := by rw [← hwg]; simp
                    have hm7g := hm7f.trans hmwg (fun _ _ h => h)
                    have hmeg := hmf.trans hmwg (fun _ _ h => h)
                    have hmwg' := hmwf.trans hmwg (fun _ _ h => h)
                    have hyr := ((HGc.out y (List.mem_of_getElem? hyi)).1.mod hm7g (fun _ _ h => h)).rd
                    have y2 : wg.cell? ⟨wf.heap.size, 0, none⟩ = some (.string y.sc) := cell_of hgwg rfl
                    have y3 : wg.cell? ⟨wf.heap.size, 1, none⟩ = some (.slice y.a y.cs.length y.c) := cell_of hgwg rfl
                    have hst := any_step hqi (fun q => keyF q == k || covQ q g.fil)
                    rw [hV] at hst
                    have hpy : Calls Tryz.prog 29 #[.agg #[.string y.sc, .slice y.a y.cs.length y.c]] wg fun e w' => e = .returned (.string (str (keyF y.fil))) ∧ Mod (fun _ => False) wg w' :=
                      fprint_at w wg (Hl0.out.mod0 hmwg') y.sc (.slice y.a y.cs.length y.c) y.cs hyr (Nat.le_trans hyo.1 (by decide)) hyo.2.2 hyo.2.1
                    have hsy : (str (keyF y.fil)).toList = keyF y.fil := by rw [ByteArray.toList_eq]; simp [str]
                    cases V with
                    | true =>
                      have Hyi := Lib.hid hyi
                      have Hqi := Lib.hid hqi
                      have Hyq := Lib.hid hyq
                      have Hzy := Lib.hid hzy
                      have Hyo := Lib.hid hyo
                      have Hcy := Lib.hid hcy
                      have Hwg := Lib.hid hwg
                      have Hmwg := Lib.hid hmwg
                      have Hgwg := Lib.hid hgwg
                      have Hm7g := Lib.hid hm7g
                      have Hmeg := Lib.hid hmeg
                      have Hyr := Lib.hid hyr
                      have Hst := Lib.hid hst
                      have Hpy := Lib.hid hpy
                      have HV := Lib.hid hV
                      have Hm7f := Lib.hid hm7f
                      have Hmwf := Lib.hid hmwf
                      have Hmwg' := Lib.hid hmwg'
                      have Hmf := Lib.hid hmf
                      clear hyi hqi hyq hzy hyo hcy hwg hmwg hgwg hm7g hmeg hyr hst hpy hV hm7f hmwf hmwg' hmf hzwg
                      go_wp2_with (first | ((with_reducible refine wpList_load_lit 29 (.tmp 148) ?_); refine ⟨sg, soff + i * 2, rfl, y.cells, Hcy.out, by kernel_rfl, by kernel_rfl, ?_⟩) | ((with_reducible refine wpList_store_lit 29 (.tmp 28) (.tmp 149) ?_); refine ⟨rfl, [.string y.sc, .slice y.a y.cs.length y.c], rfl, rfl, by kernel_rfl, rfl, ?_⟩; rw [Hwg.out]) | fail)
                      go_roundw
                      case rel => exact ⟨i + 1, by go_num, by have := HG6.out; omega, by rw [Hst.out]; rfl, Hmeg.out⟩
                      case measure => simp [intOf]; omega
                    | false =>
                      have Hyi := Lib.hid hyi
                      have Hqi := Lib.hid hqi
                      have Hyq := Lib.hid hyq
                      have Hzy := Lib.hid hzy
                      have Hyo := Lib.hid hyo
                      have Hcy := Lib.hid hcy
                      have Hwg := Lib.hid hwg
                      have Hmwg := Lib.hid hmwg
                      have Hgwg := Lib.hid hgwg
                      have Hm7g := Lib.hid hm7g
                      have Hmeg := Lib.hid hmeg
                      have Hyr := Lib.hid hyr
                      have Hst := Lib.hid hst
                      have Hpy := Lib.hid hpy
                      have HV := Lib.hid hV
                      have Hm7f := Lib.hid hm7f
                      have Hmwf := Lib.hid hmwf
                      have Hmwg' := Lib.hid hmwg'
                      have Hmf := Lib.hid hmf
                      clear hyi hqi hyq hzy hyo hcy hwg hmwg hgwg hm7g hmeg hyr hst hpy hV hm7f hmwf hmwg' hmf hzwg
                      go_wp2_with (first | ((with_reducible refine wpList_load_lit 29 (.tmp 148) ?_); refine ⟨sg, soff + i * 2, rfl, y.cells, Hcy.out, by kernel_rfl, by kernel_rfl, ?_⟩) | ((with_reducible refine wpList_store_lit 29 (.tmp 28) (.tmp 149) ?_); refine ⟨rfl, [.string y.sc, .slice y.a y.cs.length y.c], rfl, rfl, by kernel_rfl, rfl, ?_⟩; rw [Hwg.out]) | fail)
                      refine Hpy.out.mono ?_
                      rintro e wh ⟨rfl, hmh⟩
                      have hmeh := Hmeg.out.trans hmh (fun _ _ h => h)
                      have hm7h := Hm7g.out.trans hmh (fun _ _ h => h)
                      by_cases hke : keyF y.fil = k
                      · have hbe : (keyF y.fil == k) = true := by rw [beq_iff_eq]; exact hke
                        have Hmh := Lib.hid hmh
                        have Hmeh := Lib.hid hmeh
                        have Hm7h := Lib.hid hm7h
                        clear hmh hmeh hm7h
                        go_wp2_with fail
                        go_roundw
                        case rel => exact ⟨i + 1, by go_num, by have := HG6.out; omega, by rw [Hst.out, hbe]; rfl, Hmeh.out⟩
                        case measure => simp [intOf]; omega
                      · have hbe : (keyF y.fil == k) = false := by rw [beq_eq_false_iff_ne]; exact hke
                        have p2 : wh.cell? ⟨wf.heap.size, 0, none⟩ = some (.string y.sc) := cell_of (hmh.heap Hgwg.out (fun h => h)) rfl
                        have p3 : wh.cell? ⟨wf.heap.size, 1, none⟩ = some (.slice y.a y.cs.length y.c) := cell_of (hmh.heap Hgwg.out (fun h => h)) rfl
                        have g2 : wh.cell? ⟨wd.heap.size, 0, none⟩ = some (.string g.sc) := cell_of (hmeh.heap Hgwe.out (fun h => h)) rfl
                        have g3 : wh.cell? ⟨wd.heap.size, 1, none⟩ = some (.slice g.a g.cs.length g.c) := cell_of (hmeh.heap Hgwe.out (fun h => h)) rfl
                        have hcv := rcov_at wh y g (Hyr.out.mod hmh (fun _ _ h => h)) (Hgo.out.1.mod (Hmwg'.out.trans hmh (fun _ _ h => h))).cs Hyo.out Hgq.out (refM_tabOk Hfa4.out.ok _ Hzy.out) Hgc.out
                        obtain ⟨cq, hcq⟩ : ∃ cq, covQ y.fil g.fil = cq := ⟨_, rfl⟩
                        rw [hcq] at hcv
                        have Hmh := Lib.hid hmh
                        have Hmeh := Lib.hid hmeh
                        have Hm7h := Lib.hid hm7h
                        have Hcv := Lib.hid hcv
                        have Hcq := Lib.hid hcq
                        clear hmh hmeh hm7h hcv hcq
                        go_wp2_with fail
                        refine Hcv.out.mono ?_
                        rintro e wi ⟨rfl, hmi⟩
                        have hmei := Hmeh.out.trans hmi (fun _ _ h => h)
                        have Hmi := Lib.hid hmi
                        have Hmei := Lib.hid hmei
                        clear hmi hmei
                        go_wp2_with fail
                        go_roundw
                        case rel => exact ⟨i + 1, by go_num, by have := HG6.out; omega, by rw [Hst.out, hbe, Hcq.out]; rfl, Hmei.out⟩
                        case measure => simp [intOf]; omega
                  · have hQG2 := HG6.out
                    obtain rfl : i = G.length := by omega
                    obtain rfl : V = true := by rw [← hV, hQG2, List.take_length]; exact Hcovq.out
                    clear hQG2
                    have g2 : wf.cell? ⟨wd.heap.size, 0, none⟩ = some (.string g.sc) := cell_of (hmf.heap Hgwe.out (fun h => h)) rfl
                    have g3 : wf.cell? ⟨wd.heap.size, 1, none⟩ = some (.slice g.a g.cs.length g.c) := cell_of (hmf.heap Hgwe.out (fun h => h)) rfl
                    have hm4f := Hm47.out.trans hm7f (fun _ _ h => h)
                    have hgf := hm4f.heap Hg4.out (fun h => h)
                    have u5 : wf.cell? ⟨w.heap.size, 0, none⟩ = some (.string S) := cell_of hgf rfl
                    have u6 : wf.cell? ⟨w.heap.size, 1, none⟩ = some (.slice na E.length nc) := cell_of hgf rfl
                    have hmt := rmq_at wf g (Hgo.out.1.mod hmwf).cs Hgq.out S hS52 (.slice na E.length nc) E (Hrd4.out.mod hm4f (fun _ _ h => h)) hEl HEs.out
                    obtain ⟨T, hT⟩ : ∃ T, rMatF g.fil S E = T := ⟨_, rfl⟩
                    rw [hT] at hmt
                    have htW : T = true → W = true := fun h => Htells.out (by rw [hT]; exact h)
                    have Hmt := Lib.hid hmt
                    have Hm4f := Lib.hid hm4f
                    have Hgf := Lib.hid hgf
                    have HT := Lib.hid hT
                    have Hm7f := Lib.hid hm7f
                    have Hmwf := Lib.hid hmwf
                    have HV := Lib.hid hV
                    clear hmt hm4f hgf hT hm7f hmwf hV
                    go_wp2_with fail
                    refine Hmt.out.mono ?_
                    rintro e wi ⟨rfl, hmi⟩
                    have hmei := hmf.trans hmi (fun _ _ h => h)
                    have hrgi := Hrge.out.mod hmei (fun h => h) (fun h => h)
                    have hmmi := Hmme.out.trans hmei (fun _ _ h => h)
                    have Hmi := Lib.hid hmi
                    have Hmei := Lib.hid hmei
                    have Hrgi := Lib.hid hrgi
                    have Hmmi := Lib.hid hmmi
                    have Hmf := Lib.hid hmf
                    clear hmi hmei hrgi hmmi hmf
                    cases T with
                    | false =>
                      go_wp2_with fail
                      go_roundw
                      case rel => exact ⟨_, cntd, Hrgi.out, Hmmi.out⟩
                      case measure => rw [Hrgi.out.left_eq, Hrgc.out.left_eq]; exact hltd
                    | true =>
                      obtain rfl := htW rfl
                      go_wp2_with fail
                      go_roundw
                      case rel => exact ⟨_, cntd, Hrgi.out, Hmmi.out⟩
                      case measure => rw [Hrgi.out.left_eq, Hrgc.out.left_eq]; exact hltd
      · intro id c wu cnt' hkey hlk hfc hrg' hlt2 hmu hzu hen
        have hidw := wf_i Tryz.underlying3 hkey
        obtain ⟨mi, rfl, hmio, hin⟩ : ∃ mi, c = .map (some mi) ∧ om mi ∧ RIn w4 (refF R id) mi := by
          have h := Hfa4.out.r.at_ id
          rw [hfc] at h
          obtain ⟨mi, h1, h1b, -, h2⟩ := h
          exact ⟨mi, h1, h1b, h2⟩
        have hm4u : Mod (fun _ => False) w4 wu := Hmr.out.upon hmu (fun k hk => .inr (by have h1 : k = wa4.heap.size := hk; have := HZ4.out; omega))
        have hmi4 := Hfa4.out.r.low mi hmio
        obtain ⟨n2, f2, hi1, hi2⟩ := hin
        have hi1u := hi1.mod hm4u (fun h => h)
        have hgu := Hga.out.mod hmu (fun h => by have h1 : w4.heap.size = wa4.heap.size := h; have := HZ4.out; omega)
        have hmm4 : mm < w4.heap.size := Hfa4.out.r.low mm Hfa4.out.r.ob
        have hru := hrg'.lt
        have Hkey := Lib.hid hkey
        have Hlk := Lib.hid hlk
        have Hfc := Lib.hid hfc
        have Hrg := Lib.hid hrg
        have Hrg' := Lib.hid hrg'
        have Hmu := Lib.hid hmu
        have Hzu := Lib.hid hzu
        have Hidw := Lib.hid hidw
        have Hi1 := Lib.hid hi1
        have Hi2 := Lib.hid hi2
        have Hi1u := Lib.hid hi1u
        have Hm4u := Lib.hid hm4u
        have Hgu := Lib.hid hgu
        clear hkey hlk hfc hrg hrg' hmu hzu hidw hi1 hi2 hi1u hm4u hgu
        go_wp2_with (first | ((at_range; refine wpList_range_R rfl _ 61 rfl 9 29 keyed_s Tryz.underlying61 mi n2 f2 rfl Hi1u.out ?_; intro wG hrg2 hmG hzG)) | fail)
        have hrel1 : GiRel w4 R td mm wa4.heap.size w4.heap.size f id (fun z => left z && !z.sameKey (.int .i64 id)) cnt' mi wu.heap.size f2 wG := ⟨_, _, A, hrg2, Hrg'.out.mod hmG (fun h => h) (fun h => h), Hgu.out.mod hmG (fun h => h), fun x k hx hxi hl hs => (by
          have hl : (left (.int .i64 x) && !(Lit.int .i64 x).sameKey (.int .i64 id)) = false := hl
          rw [same_i] at hl
          have e2 : (x == id) = false := by rw [beq_eq_false_iff_ne]; exact hxi
          rw [e2, Bool.not_false, Bool.and_true] at hl
          exact HAc.out x k hx hl hs), fun hx k hl hs => (by
          have hl : (f2 (.string k)).isSome = false := hl
          rw [Hi2.out k, Option.isSome_map, hs] at hl
          cases hl), Hm4u.out.trans hmG (fun _ _ h => h)⟩
        have Hrel1 := Lib.hid hrel1
        have Hrg2 := Lib.hid hrg2
        have HmG := Lib.hid hmG
        clear hrel1 hrg2 hmG hzG
        go_frame
        go_loopw [69] (fun _ wr => GiRel w4 R td mm wa4.heap.size w4.heap.size f id (fun z => left z && !z.sameKey (.int .i64 id)) cnt' mi wu.heap.size f2 wr) (fun _ wr => wr.rangeLeft mi wu.heap.size)
        case atStart => exact Hrel1.out
        case round =>
          revert wr
          intro wn hrel
          obtain ⟨left2, cnt2, A2, hrg3, hrgo, hga2, hA2, hA3, hmr2⟩ := hrel
          have Hrgo := Lib.hid hrgo
          have Hga2 := Lib.hid hga2
          have HA2 := Lib.hid hA2
          have HA3 := Lib.hid hA3
          have Hmr2 := Lib.hid hmr2
          clear hrgo hga2 hA2 hA3 hmr2
          go_wp2_with (first | ((at_next; refine wpList_next_R rfl _ rfl 9 keyed_s encStr Lit.string (inv_s _ Tryz.underlying9) (in_s _ Tryz.underlying9) mi wu.heap.size f2 left2 cnt2 rfl hrg3 ?_ ?_)) | fail)
          · intro hl2
            have Hrg3 := Lib.hid hrg3
            have Hl2 := Lib.hid hl2
            clear hrg3 hl2
            go_wp2_with fail
            go_roundw
            case rel =>
              refine ⟨_, cnt', A2, Hrgo.out, Hga2.out, fun x k hx hl hs => ?_, Hmr2.out⟩
              by_cases e : x = id
              · subst e
                exact HA3.out hx k (Hl2.out _) hs
              · exact HA2.out x k hx e hl hs
            case measure => rw [Hrgo.out.left_eq, Hrg.out.left_eq]; exact hlt2
          · intro k c2 wo cnt3 hkey2 hlk2 hfc2 hrg4 hlt3 hmo hzo hen2
            obtain ⟨g, hgk, rfl⟩ : ∃ g, refF R id k = some g ∧ c2 = .agg #[.string g.sc, .slice g.a g.cs.length g.c] := by
              rw [Hi2.out k] at hfc2
              obtain ⟨g, h1, h2⟩ := Option.map_eq_some_iff.1 hfc2
              exact ⟨g, h1, h2.symm⟩
            obtain ⟨wv, hwv⟩ : ∃ wv : World, wo.alloc (.cells #[.string g.sc, .slice g.a g.cs.length g.c] 29) = wv := ⟨_, rfl⟩
            have hmwv : Mod (fun _ => False) wo wv := hwv ▸ (Mod.refl (fun _ => False) wo).alloc _
            have hgwv := heap_alloc_new wo (.cells #[.string g.sc, .slice g.a g.cs.length g.c] 29)
            rw [hwv] at hgwv
            have hzwv : wv.heap.size = wo.heap.size + 1 := by rw [← hwv]; simp
            have hm4o : Mod (fun _ => False) w4 wo := Hmr2.out.upon hmo (fun k hk => .inr (by have h1 : k = wu.heap.size := hk; have := HZ4.out; omega))
            have hm4v := hm4o.trans hmwv (fun _ _ h => h)
            have hga4 := (Hga2.out.mod hmo (fun h => by have h1 : w4.heap.size = wu.heap.size := h; have := HZ4.out; omega)).mod hmwv (fun h => h)
            have hrgo4 := (Hrgo.out.mod hmo (fun h => by have h1 : mm = wu.heap.size := h; have := HZ4.out; omega) (fun h => by have h1 : wa4.heap.size = wu.heap.size := h; have := HZ4.out; omega)).mod hmwv (fun h => h) (fun h => h)
            have hrg5 := hrg4.mod hmwv (fun h => h) (fun h => h)
            have v2 : wv.cell? ⟨wo.heap.size, 0, none⟩ = some (.string g.sc) := cell_of hgwv rfl
            have v3 : wv.cell? ⟨wo.heap.size, 1, none⟩ = some (.slice g.a g.cs.length g.c) := cell_of hgwv rfl
            by_cases hx : id = td
            · subst hx
              have Hkey2 := Lib.hid hkey2
              have Hlk2 := Lib.hid hlk2
              have Hfc2 := Lib.hid hfc2
              have Hrg3 := Lib.hid hrg3
              have Hrg4 := Lib.hid hrg4
              have Hmo := Lib.hid hmo
              have Hzo := Lib.hid hzo
              have Hgk := Lib.hid hgk
              have Hwv := Lib.hid hwv
              have Hmwv := Lib.hid hmwv
              have Hgwv := Lib.hid hgwv
              have Hm4o := Lib.hid hm4o
              have Hm4v := Lib.hid hm4v
              have Hga4 := Lib.hid hga4
              have Hrgo4 := Lib.hid hrgo4
              have Hrg5 := Lib.hid hrg5
              clear hkey2 hlk2 hfc2 hrg3 hrg4 hmo hzo hgk hwv hmwv hgwv hm4o hm4v hga4 hrgo4 hrg5 hzwv
              go_wp2_with (first | ((with_reducible refine wpList_store_lit 29 (.tmp 14) (.tmp 73) ?_); refine ⟨rfl, [.string g.sc, .slice g.a g.cs.length g.c], rfl, rfl, by kernel_rfl, rfl, ?_⟩; rw [Hwv.out]) | fail)
              go_roundw
              case rel => exact ⟨_, cnt3, A2, Hrg5.out, Hrgo4.out, Hga4.out, HA2.out, fun h => absurd rfl h, Hm4v.out⟩
              case measure => rw [Hrg5.out.left_eq, Hrg3.out.left_eq]; exact hlt3
            · obtain ⟨n5, f5, hM5, hn5, hput⟩ := hga4.put hx hgk
              have hnm : n5 < maxLen := by unfold maxLen; omega
              have Hkey2 := Lib.hid hkey2
              have Hlk2 := Lib.hid hlk2
              have Hfc2 := Lib.hid hfc2
              have Hrg3 := Lib.hid hrg3
              have Hrg4 := Lib.hid hrg4
              have Hmo := Lib.hid hmo
              have Hzo := Lib.hid hzo
              have Hgk := Lib.hid hgk
              have Hwv := Lib.hid hwv
              have Hmwv := Lib.hid hmwv
              have Hgwv := Lib.hid hgwv
              have Hm4o := Lib.hid hm4o
              have Hm4v := Lib.hid hm4v
              have Hga4 := Lib.hid hga4
              have Hrgo4 := Lib.hid hrgo4
              have Hrg5 := Lib.hid hrg5
              have HM5 := Lib.hid hM5
              have Hput := Lib.hid hput
              clear hkey2 hlk2 hfc2 hrg3 hrg4 hmo hzo hgk hwv hmwv hgwv hm4o hm4v hga4 hrgo4 hrg5 hM5 hput hzwv hn5
              go_wp2_with (first | ((with_reducible refine wpList_store_lit 29 (.tmp 14) (.tmp 73) ?_); refine ⟨rfl, [.string g.sc, .slice g.a g.cs.length g.c], rfl, rfl, by kernel_rfl, rfl, ?_⟩; rw [Hwv.out]) | ((with_reducible refine wpList_mput_lit 61 (.tmp 77) (.tmp 78) (.tmp 79) ?_); refine ⟨9, 29, w4.heap.size, n5, f5, .string k, HM5.out, keyed_s, Tryz.underlying61, hnm, rfl, Hkey2.out, ?_⟩; intro w8 hM' hm'; have HM' := Lib.hid hM'; have Hm' := Lib.hid hm'; clear hM' hm') | fail)
              have hrg8 := Hrg5.out.mod Hm'.out (fun h => by have h1 : mi = w4.heap.size := h; omega) (fun h => by have h1 : wu.heap.size = w4.heap.size := h; have := HZ4.out; omega)
              have hrgo8 := Hrgo4.out.mod Hm'.out (fun h => by have h1 : mm = w4.heap.size := h; omega) (fun h => by have h1 : wa4.heap.size = w4.heap.size := h; have := HZ4.out; omega)
              have Hrg8 := Lib.hid hrg8
              have Hrgo8 := Lib.hid hrgo8
              clear hrg8 hrgo8
              go_roundw
              case rel =>
                repeat apply Exists.intro
                refine And.intro ?_ ?_
                rotate_left
                · repeat' (first | rfl | refine And.intro ?_ ?_)
                refine ⟨_, cnt3, _, Hrg8.out, Hrgo8.out, Hput.out _ _ HM'.out, fun x j hx1 hx2 hl hs => ?_, fun hx1 j hl hs => ?_, Hm4v.out.upon Hm'.out (fun k hk => .inr (Nat.le_of_eq (Eq.symm hk)))⟩
                · show (if j = k then some g else A2 j).isSome = true
                  split
                  · rfl
                  · exact HA2.out x j hx1 hx2 hl hs
                · show (if j = k then some g else A2 j).isSome = true
                  split
                  · rfl
                  · rename_i e
                    have hl : (left2 (.string j) && !(Lit.string j).sameKey (.string k)) = false := hl
                    rw [same_s] at hl
                    have e2 : (j == k) = false := by rw [beq_eq_false_iff_ne]; exact e
                    rw [e2, Bool.not_false, Bool.and_true] at hl
                    exact HA3.out hx1 j hl hs
              case measure => rw [Hrg8.out.left_eq, Hrg3.out.left_eq]; exact hlt3
end Go.Proofs.YtloplmaekonenaaGreatDoor
