/-
  gazettelaw14.TableRuns.
-/
import Derived.Test.YtloplmaekonenaaGreatDoorZf41
import Derived.Test.YtloplmaekonenaaGreatDoorZf10
import Derived.BigQuiet
namespace Go.Proofs.YtloplmaekonenaaGreatDoor
set_option maxRecDepth 20000
open Go.RowKit Go.Sort

/-- A round over the places. -/
def PlRel (w4 : World) (mm r : Nat) (f : Lit → Option Value) (wr : World) : Prop := ∃ (left : Lit → Bool) (cnt : Nat), RngR wr 3 mm r f left cnt ∧ Mod (fun _ => False) w4 wr
/-- A round over the filters of one. -/
def FlRel (w6 : World) (Q : List Fil) (S : ByteArray) (E : List Att) (wv lv iv : Value) (wr : World) : Prop :=
  ∃ (j : Nat) (s : ByteArray), iv = .int .i64 j ∧ j ≤ Q.length ∧ wv = .bool ((Q.take j).any fun q => rMatF q S E) ∧ lv = .string s ∧ (∀ k q, j = k + 1 → Q[k]? = some q → s = str (keyF q)) ∧ Mod (fun _ => False) w6 wr
theorem any_step {Q : List Fil} {j : Nat} {x : Fil} (h : Q[j]? = some x) (p : Fil → Bool) : (Q.take (j + 1)).any p = ((Q.take j).any p || p x) := by
  rw [List.take_add_one, h, List.any_append]
  simp

/-- A block from before is written. -/
theorem FillAt.upon {w0 w1 w w' : World} {b mm g : Nat} {own C om : Nat → Prop} {R : List (Int × Fr)} {N N2 n : Nat} {f : Lit → Option Value} (h : FillAt w0 w1 w b mm own C om R N N2 n f) (hm : Mod (fun k => k = g) w w') (hg : g < w1.heap.size) : FillAt w0 w1 w' b mm own C om R N N2 n f :=
  ⟨h.t.mod hm (fun k _ hk => ⟨fun h1 => by have h1 := (h.o k h1).1; have h2 : k = g := hk; omega, fun h1 => by have h1 := h.c k h1; have h2 : k = g := hk; omega⟩), h.r.mod hm (fun k hk h1 => by have h1 := (h.m k h1).1; have h2 : k = g := hk; omega), h.ok, h.o, h.m, h.c⟩

set_option maxHeartbeats 16000000 in
theorem truns_walk (w : World) (hl : LaidAt w) (hn : 16 ≤ w.heap.size) (v : Value) (l : List Tc) (hv : TcsAt w v l) (hll : l.length ≤ 9223372036854775807) (S0 : ByteArray) (hS0 : S0.size ≤ maxLen) (ea : Option Addr) (ec : Nat) (L : List Att) (hrd0 : RdSl w 6 (.slice ea L.length ec) L.length (atts L)) (hLl : L.length ≤ maxLen) (hLn : ∀ x ∈ L, x.name.size ≤ maxLen) :
    Calls Tryz.prog 10 #[v, .agg #[.string S0, .slice ea L.length ec]] w fun e w' => e = .returned (.bool true) ∧ Mod (fun _ => False) w w' := by
  have hl0 : Laid w w := ⟨hl, hn, ⟨rfl, rfl, rfl, Nat.le_refl _, fun _ _ => rfl⟩⟩
  have hS0' : S0.size ≤ 9223372036854775807 := by unfold maxLen at hS0; omega
  have hLl' : L.length ≤ 9223372036854775807 := by unfold maxLen at hLl; omega
  have hLn' : ∀ x ∈ L, x.name.size ≤ 9223372036854775807 := fun x hx => by have := hLn x hx; unfold maxLen at this; omega
  obtain ⟨wa, hwa⟩ : ∃ wa : World, w.alloc (.cells #[.string S0, .slice ea L.length ec] 32) = wa := ⟨_, rfl⟩
  have hmwa : Mod (fun _ => False) w wa := hwa ▸ (Mod.refl (fun _ => False) w).alloc _
  have hgwa := heap_alloc_new w (.cells #[.string S0, .slice ea L.length ec] 32)
  rw [hwa] at hgwa
  have hzwa : wa.heap.size = w.heap.size + 1 := by rw [← hwa]; simp
  have hfit := fit14_at w wa (hl0.mod0 hmwa)
  have Hl := Lib.hid hl
  have Hv := Lib.hid hv
  have Hl0 := Lib.hid hl0
  have Hfit := Lib.hid hfit
  have Hrd0 := Lib.hid hrd0
  have HLn' := Lib.hid hLn'
  have Hwa := Lib.hid hwa
  have Hmwa := Lib.hid hmwa
  have Hgwa := Lib.hid hgwa
  clear hl hv hl0 hfit hrd0 hLn' hwa hmwa hgwa hS0 hLl hLn hzwa
  go_enter Tryz.func10, Tryz.ntmps10
  go_wp2_with (first | (rw [show w.alloc _ = wa from Hwa.out]) | fail)
  refine Hfit.out.mono ?_
  rintro e w0 ⟨rfl, hm0⟩
  have hmw0 := Hmwa.out.trans hm0 (fun _ _ h => h)
  have hlt := light14_at w0 v l (Hv.out.mod hmw0) hll
  have hg0 := hm0.heap Hgwa.out (fun h => h)
  have Hm0 := Lib.hid hm0
  have Hmw0 := Lib.hid hmw0
  have Hlt := Lib.hid hlt
  have Hg0 := Lib.hid hg0
  clear hm0 hmw0 hlt hg0
  go_wp2_with fail
  refine Hlt.out.mono ?_
  rintro e w1 ⟨t, rfl, ht, hm1⟩
  have hmw1 := Hmw0.out.trans hm1 (fun _ _ h => h)
  have hg1 := hm1.heap Hg0.out (fun h => h)
  have d0 : w1.cell? ⟨w.heap.size, 0, none⟩ = some (.string S0) := cell_of hg1 rfl
  have d1 : w1.cell? ⟨w.heap.size, 1, none⟩ = some (.slice ea L.length ec) := cell_of hg1 rfl
  cases t with
  | false =>
    have Hm1 := Lib.hid hm1
    have Hmw1 := Lib.hid hmw1
    have Ht := Lib.hid ht
    have Hg1 := Lib.hid hg1
    clear hm1 hmw1 ht hg1
    go_wp2_with fail
    go_ret
    exact ⟨rfl, Hmw1.out⟩
  | true =>
    have hl60 := ht rfl
    by_cases z3 : 60 < S0.size
    · have z3' : (60 : Int) < ((S0.size : Nat) : Int) := by omega
      have Hm1 := Lib.hid hm1
      have Hmw1 := Lib.hid hmw1
      have Hg1 := Lib.hid hg1
      have Ht := Lib.hid ht
      clear hm1 hmw1 hg1 ht
      go_wp2_with fail
      go_ret
      exact ⟨rfl, Hmw1.out⟩
    have z3' : ((S0.size : Nat) : Int) ≤ 60 := by omega
    by_cases z4 : 20 < L.length
    · have z4' : (20 : Int) < ((L.length : Nat) : Int) := by omega
      have Hm1 := Lib.hid hm1
      have Hmw1 := Lib.hid hmw1
      have Hg1 := Lib.hid hg1
      have Ht := Lib.hid ht
      clear hm1 hmw1 hg1 ht
      go_wp2_with fail
      go_ret
      exact ⟨rfl, Hmw1.out⟩
    have z4' : ((L.length : Nat) : Int) ≤ 20 := by omega
    have zd3 : decide ((60 : Int) < ((S0.size : Nat) : Int)) = false := decide_eq_false (by omega)
    have zd4 : decide ((20 : Int) < ((L.length : Nat) : Int)) = false := decide_eq_false (by omega)
    have hfill := fill_at w w1 (Hl0.out.mod0 hmw1) v l Hv.out hmw1 hl60
    have Hm1 := Lib.hid hm1
    have Hmw1 := Lib.hid hmw1
    have Hg1 := Lib.hid hg1
    have Ht := Lib.hid ht
    have Hfill := Lib.hid hfill
    clear hm1 hmw1 hg1 ht hfill
    go_wp2_with fail
    refine Hfill.out.mono ?_
    rintro e w2 ⟨b, mm, N, N2, n, own, C, om, R, f, rfl, hfa2, hN, hN2, hm2⟩
    have hmw2 := Hmw1.out.trans hm2 (fun _ _ h => h)
    have hg2 := hm2.heap Hg1.out (fun h => h)
    have e0 : w2.cell? ⟨w.heap.size, 0, none⟩ = some (.string S0) := cell_of hg2 rfl
    have e1 : w2.cell? ⟨w.heap.size, 1, none⟩ = some (.slice ea L.length ec) := cell_of hg2 rfl
    have hevt := ev7_at w2 S0 (.slice ea L.length ec) L (Hrd0.out.mod hmw2 (fun _ _ h => h)) (by omega) hS0' (fun y hy => newL_bound hy HLn'.out)
    have Hfa2 := Lib.hid hfa2
    have Hm2 := Lib.hid hm2
    have Hmw2 := Lib.hid hmw2
    have Hg2 := Lib.hid hg2
    have Hevt := Lib.hid hevt
    clear hfa2 hm2 hmw2 hg2 hevt d0 d1
    go_wp2_with fail
    refine Hevt.out.mono ?_
    rintro e w3 ⟨av, rfl, hoa, hoab, hm3⟩
    obtain ⟨na, nc, rfl, -⟩ := hoa.shape
    have hEl : (ev7L L).length ≤ 8 := ev7_len L
    have hEs : ∀ a ∈ ev7L L, a.name.size ≤ 12 ∧ a.v.text.size ≤ 40 := fun a ha => ev7_small ha
    have hEr := ev7L_rises L
    obtain ⟨S, hS⟩ : ∃ S, ev7S S0 = S := ⟨_, rfl⟩
    obtain ⟨E, hE⟩ : ∃ E, ev7L L = E := ⟨_, rfl⟩
    rw [hE] at hoa hoab hEl hEs hEr ⊢
    rw [hS]
    have hS52 : S.size ≤ 52 := by rw [← hS]; exact ev7S_size
    have hg3 := hm3.heap Hg2.out (fun h => h)
    have hmw3 := Hmw2.out.trans hm3 (fun _ _ h => h)
    have hfa3 := Hfa2.out.mod hm3
    have hlow : w.heap.size < w1.heap.size := (Array.getElem?_eq_some_iff.1 Hg1.out).1
    have hlow2 := Hm2.out.size
    have hn200 : n ≤ 1000 := by have := hfa3.r.n; omega
    have Hoa := Lib.hid hoa
    have Hoab := Lib.hid hoab
    have HEs := Lib.hid hEs
    have HEr := Lib.hid hEr
    have Hg3 := Lib.hid hg3
    have Hmw3 := Lib.hid hmw3
    have Hfa3 := Lib.hid hfa3
    have Hm3 := Lib.hid hm3
    clear hoa hoab hEs hEr hg3 hmw3 hfa3 hm3 hS hE e0 e1
    go_wp2_with (first | ((with_reducible refine wpList_store_row_lit 32 (.tmp 3) (.tmp 47) ?_); refine ⟨w.heap.size, rfl, _, _, Hg3.out, [.string S, .slice na E.length nc], rfl, rfl, by kernel_rfl, rfl, ?_⟩; intro w4 hg4 hm4; have Hg4 := Lib.hid hg4; have Hm4 := Lib.hid hm4; clear hg4 hm4; have Hfa4 := Lib.hid (Hfa3.out.upon Hm4.out hlow)) | ((at_range; refine wpList_range_R rfl _ 56 rfl 3 61 keyed_i Tryz.underlying56 mm n f rfl Hfa4.out.r.mp ?_; intro wF hrg hmF hzF)) | fail)
    have hmw4 : Mod (fun _ => False) w w4 := Hmw3.out.upon Hm4.out (fun k hk => .inr (Nat.le_of_eq (Eq.symm hk)))
    have hrd4 := (Hoa.out.mod Hm4.out (fun k hk e => by have h1 := Hoab.out k hk; have h2 : k = w.heap.size := e; omega)).rd
    have Hmw4 := Lib.hid hmw4
    have Hrd4 := Lib.hid hrd4
    clear hmw4 hrd4
    have hrel0 : PlRel w4 mm w4.heap.size f wF := ⟨_, _, hrg, hmF⟩
    have Hrel0 := Lib.hid hrel0
    have Hrg := Lib.hid hrg
    have HmF := Lib.hid hmF
    clear hrel0 hrg hmF hzF
    go_frame
    go_loopw [10] (fun _ wr => PlRel w4 mm w4.heap.size f wr) (fun _ wr => wr.rangeLeft mm w4.heap.size)
    case atStart => exact Hrel0.out
    case round =>
      revert wr
      intro wl hrel
      obtain ⟨left, cnt, hrg, hmr⟩ := hrel
      have hml := Hmw4.out.trans hmr (fun _ _ h => h)
      have Hmr := Lib.hid hmr
      have Hml := Lib.hid hml
      clear hmr hml
      go_wp2_with (first | ((at_next; refine wpList_next_R rfl _ rfl 3 keyed_i (Value.int .i64) (Lit.int .i64) (inv_i _ Tryz.underlying3) (in_i _ Tryz.underlying3) mm w4.heap.size f left cnt rfl hrg ?_ ?_)) | fail)
      · intro hl0
        have hfal := Hfa4.out.mod Hmr.out
        have hkx := Maps.keyOf_int_mk Tryz.underlying3 (show (Lit.int .i64 (-77)).wf = true by decide)
        have hat := hfal.r.at_ (-77)
        cases hv7 : f (.int .i64 (-77)) with
        | none =>
          rw [hv7] at hat
          have hq7 := allQ_none hat
          have Hrg := Lib.hid hrg
          have Hl0 := Lib.hid hl0
          have Hfal := Lib.hid hfal
          have Hkx := Lib.hid hkx
          have Hv7 := Lib.hid hv7
          have Hq7 := Lib.hid hq7
          clear hrg hl0 hfal hkx hv7 hq7 hat
          go_wp2_with fail
          refine wp_region_news2 [.rd 0, .rd 3, .rd 4, .go 1, .rd 2, .rd 5, .rd 6, .rd 7] [0, 1, 2, 3, 4, 5, 6, 7] (by kernel_rfl) (by kernel_rfl) (fun _ _ d _ _ h => (by cases d <;> exact h)) ?_
          refine news_pure rfl ?_ ?_ (fun w0 => ?_) (fun K hK => ?_)
          · (try simp only [List.getElem_toArray]); (try simp only [List.getElem_cons_succ]); (try simp only [List.getElem_cons_zero])
            go_simp; done
          rotate_left
          · (try simp only [List.getElem_toArray]); (try simp only [List.getElem_cons_succ]); (try simp only [List.getElem_cons_zero])
            go_simp; with_reducible rfl
          (try simp only [List.getElem_toArray]); (try simp only [List.getElem_cons_succ]); (try simp only [List.getElem_cons_zero])
          go_simp; refine hK _ ?_; clear hK K
          refine news_pure rfl ?_ ?_ (fun w0 => ?_) (fun K hK => ?_)
          · (try simp only [List.getElem_toArray]); (try simp only [List.getElem_cons_succ]); (try simp only [List.getElem_cons_zero])
            go_simp; done
          rotate_left
          · (try simp only [List.getElem_toArray]); (try simp only [List.getElem_cons_succ]); (try simp only [List.getElem_cons_zero])
            go_simp; with_reducible rfl
          (try simp only [List.getElem_toArray]); (try simp only [List.getElem_cons_succ]); (try simp only [List.getElem_cons_zero])
          go_simp; refine hK _ ?_; clear hK K
          refine news_rd rfl rfl ?_ ((fun y : World => MapR y 3 mm n f)) ((fun _ _ m h => h.mod m (fun h => h))) ((Hfal.out.r.mp.mod (Mod.refl (fun _ => False) _).drew (fun h => h))) ?_ (fun w0 h0 => ?_) (fun K hK => ?_)
          · (try simp only [List.getElem_toArray]); (try simp only [List.getElem_cons_succ]); (try simp only [List.getElem_cons_zero])
            go_simp; done
          rotate_left
          · (try simp only [List.getElem_toArray]); (try simp only [List.getElem_cons_succ]); (try simp only [List.getElem_cons_zero])
            have f0 := h0.look keyed_i Tryz.underlying56 (zero_mm _) Hkx.out; rw [Hv7.out] at f0; clear h0; go_simp; with_reducible rfl
          (try simp only [List.getElem_toArray]); (try simp only [List.getElem_cons_succ]); (try simp only [List.getElem_cons_zero])
          go_simp; refine hK _ ?_; clear hK K
          refine news_one (newsgo_yes rfl ?_ (fun K hK => ?_))
          · (try simp only [List.getElem_toArray]); (try simp only [List.getElem_cons_succ]); (try simp only [List.getElem_cons_zero])
            go_simp; done
          go_wp2_with fail
          have hmd : Mod (fun _ => False) wl wl.drew := (Mod.refl _ _).drew
          have hp1 := tall_at wl.drew b own C (refM R) N (Hfal.out.t.mod0 hmd (fun _ _ h => h)) (by omega) (-77) (by decide)
          refine hp1.mono ?_
          rintro e wA ⟨v7, G7, rfl, ho7, -, hG7, -, hmA⟩
          rw [Hq7.out] at hG7
          obtain rfl : G7 = [] := List.map_eq_nil_iff.1 hG7
          obtain ⟨a7, c7, rfl, -⟩ := ho7.shape
          rw [show ([] : List Fr).length = 0 from rfl]
          refine hK _ _ (fun _ => hmA) ?_
          clear hK K hp1
          refine news_pure rfl ?_ ?_ (fun w0 => ?_) (fun K hK => ?_)
          · (try simp only [List.getElem_toArray]); (try simp only [List.getElem_cons_succ]); (try simp only [List.getElem_cons_zero])
            go_simp; done
          rotate_left
          · (try simp only [List.getElem_toArray]); (try simp only [List.getElem_cons_succ]); (try simp only [List.getElem_cons_zero])
            go_simp; with_reducible rfl
          (try simp only [List.getElem_toArray]); (try simp only [List.getElem_cons_succ]); (try simp only [List.getElem_cons_zero])
          go_simp; refine hK _ ?_; clear hK K
          refine news_pure rfl ?_ ?_ (fun w0 => ?_) (fun K hK => ?_)
          · (try simp only [List.getElem_toArray]); (try simp only [List.getElem_cons_succ]); (try simp only [List.getElem_cons_zero])
            go_simp; done
          rotate_left
          · (try simp only [List.getElem_toArray]); (try simp only [List.getElem_cons_succ]); (try simp only [List.getElem_cons_zero])
            go_simp; with_reducible rfl
          (try simp only [List.getElem_toArray]); (try simp only [List.getElem_cons_succ]); (try simp only [List.getElem_cons_zero])
          go_simp; refine hK _ ?_; clear hK K
          refine news_pure rfl ?_ ?_ (fun w0 => ?_) (fun K hK => ?_)
          · (try simp only [List.getElem_toArray]); (try simp only [List.getElem_cons_succ]); (try simp only [List.getElem_cons_zero])
            go_simp; done
          rotate_left
          · (try simp only [List.getElem_toArray]); (try simp only [List.getElem_cons_succ]); (try simp only [List.getElem_cons_zero])
            go_simp; with_reducible rfl
          (try simp only [List.getElem_toArray]); (try simp only [List.getElem_cons_succ]); (try simp only [List.getElem_cons_zero])
          go_simp; refine hK _ ?_; clear hK K
          refine news_pure rfl ?_ ?_ (fun w0 => ?_) (fun K hK => ?_)
          · (try simp only [List.getElem_toArray]); (try simp only [List.getElem_cons_succ]); (try simp only [List.getElem_cons_zero])
            go_simp; done
          rotate_left
          · (try simp only [List.getElem_toArray]); (try simp only [List.getElem_cons_succ]); (try simp only [List.getElem_cons_zero])
            go_simp; with_reducible rfl
          (try simp only [List.getElem_toArray]); (try simp only [List.getElem_cons_succ]); (try simp only [List.getElem_cons_zero])
          go_simp; refine hK _ ?_; clear hK K
          refine news_nil ?_
          have hmwA := (Hml.out.trans hmd (fun _ _ h => h)).trans hmA (fun _ _ h => h)
          have HmwA := Lib.hid hmwA
          clear hmwA hmd hmA ho7 hG7
          go_wp2_with fail
          go_ret
          exact ⟨rfl, HmwA.out⟩
        | some v7 =>
          rw [hv7] at hat
          obtain ⟨mi, rfl, -, -, n5, f5, hi1, hi2⟩ := hat
          have hn5 := rin_len hfal.t hi1 hi2
          have Hrg := Lib.hid hrg
          have Hl0 := Lib.hid hl0
          have Hfal := Lib.hid hfal
          have Hkx := Lib.hid hkx
          have Hv7 := Lib.hid hv7
          have Hn5 := Lib.hid hn5
          have Hi1 := Lib.hid hi1
          have Hi2 := Lib.hid hi2
          clear hrg hl0 hfal hkx hv7 hn5 hi1 hi2
          go_wp2_with fail
          refine wp_region_news2 [.rd 0, .rd 3, .rd 4, .go 1, .rd 2, .go 5, .rd 6, .rd 7] [0, 1, 2, 3, 4, 5, 6, 7] (by kernel_rfl) (by kernel_rfl) (fun _ _ d _ _ h => (by cases d <;> exact h)) ?_
          refine news_pure rfl ?_ ?_ (fun w0 => ?_) (fun K hK => ?_)
          · (try simp only [List.getElem_toArray]); (try simp only [List.getElem_cons_succ]); (try simp only [List.getElem_cons_zero])
            go_simp; done
          rotate_left
          · (try simp only [List.getElem_toArray]); (try simp only [List.getElem_cons_succ]); (try simp only [List.getElem_cons_zero])
            go_simp; with_reducible rfl
          (try simp only [List.getElem_toArray]); (try simp only [List.getElem_cons_succ]); (try simp only [List.getElem_cons_zero])
          go_simp; refine hK _ ?_; clear hK K
          refine news_pure rfl ?_ ?_ (fun w0 => ?_) (fun K hK => ?_)
          · (try simp only [List.getElem_toArray]); (try simp only [List.getElem_cons_succ]); (try simp only [List.getElem_cons_zero])
            go_simp; done
          rotate_left
          · (try simp only [List.getElem_toArray]); (try simp only [List.getElem_cons_succ]); (try simp only [List.getElem_cons_zero])
            go_simp; with_reducible rfl
          (try simp only [List.getElem_toArray]); (try simp only [List.getElem_cons_succ]); (try simp only [List.getElem_cons_zero])
          go_simp; refine hK _ ?_; clear hK K
          refine news_rd rfl rfl ?_ ((fun y : World => MapR y 3 mm n f)) ((fun _ _ m h => h.mod m (fun h => h))) ((Hfal.out.r.mp.mod (Mod.refl (fun _ => False) _).drew (fun h => h))) ?_ (fun w0 h0 => ?_) (fun K hK => ?_)
          · (try simp only [List.getElem_toArray]); (try simp only [List.getElem_cons_succ]); (try simp only [List.getElem_cons_zero])
            go_simp; done
          rotate_left
          · (try simp only [List.getElem_toArray]); (try simp only [List.getElem_cons_succ]); (try simp only [List.getElem_cons_zero])
            have f0 := h0.look keyed_i Tryz.underlying56 (zero_mm _) Hkx.out; rw [Hv7.out] at f0; clear h0; go_simp; with_reducible rfl
          (try simp only [List.getElem_toArray]); (try simp only [List.getElem_cons_succ]); (try simp only [List.getElem_cons_zero])
          go_simp; refine hK _ ?_; clear hK K
          refine news_one (newsgo_yes rfl ?_ (fun K hK => ?_))
          · (try simp only [List.getElem_toArray]); (try simp only [List.getElem_cons_succ]); (try simp only [List.getElem_cons_zero])
            go_simp; done
          go_wp2_with fail
          have hmd : Mod (fun _ => False) wl wl.drew := (Mod.refl _ _).drew
          have hp1 := tall_at wl.drew b own C (refM R) N (Hfal.out.t.mod0 hmd (fun _ _ h => h)) (by omega) (-77) (by decide)
          refine hp1.mono ?_
          rintro e wA ⟨v7, G7, rfl, ho7, -, hG7, -, hmA⟩
          obtain ⟨a7, c7, rfl, -⟩ := ho7.shape
          obtain rfl : n5 = G7.length := by rw [Hn5.out, ← hG7, List.length_map]
          refine hK _ _ (fun _ => hmA) ?_
          clear hK K hp1
          refine news_pure rfl ?_ ?_ (fun w0 => ?_) (fun K hK => ?_)
          · (try simp only [List.getElem_toArray]); (try simp only [List.getElem_cons_succ]); (try simp only [List.getElem_cons_zero])
            go_simp; done
          rotate_left
          · (try simp only [List.getElem_toArray]); (try simp only [List.getElem_cons_succ]); (try simp only [List.getElem_cons_zero])
            go_simp; with_reducible rfl
          (try simp only [List.getElem_toArray]); (try simp only [List.getElem_cons_succ]); (try simp only [List.getElem_cons_zero])
          go_simp; refine hK _ ?_; clear hK K
          have f0 := fun ty => ((Hi1.out.mod hmd (fun h => h)).mod hmA (fun h => h)).len Tryz.underlying61 ty
          refine news_one (newsgo_yes rfl ?_ (fun K hK => ?_))
          · (try simp only [List.getElem_toArray]); (try simp only [List.getElem_cons_succ]); (try simp only [List.getElem_cons_zero])
            go_simp; done
          (try simp only [List.getElem_toArray]); (try simp only [List.getElem_cons_succ]); (try simp only [List.getElem_cons_zero])
          go_simp
          refine hK _ _ (fun _ => Mod.refl _ _) ?_
          clear hK K
          clear f0
          refine news_pure rfl ?_ ?_ (fun w0 => ?_) (fun K hK => ?_)
          · (try simp only [List.getElem_toArray]); (try simp only [List.getElem_cons_succ]); (try simp only [List.getElem_cons_zero])
            go_simp; done
          rotate_left
          · (try simp only [List.getElem_toArray]); (try simp only [List.getElem_cons_succ]); (try simp only [List.getElem_cons_zero])
            go_simp; with_reducible rfl
          (try simp only [List.getElem_toArray]); (try simp only [List.getElem_cons_succ]); (try simp only [List.getElem_cons_zero])
          go_simp; refine hK _ ?_; clear hK K
          refine news_pure rfl ?_ ?_ (fun w0 => ?_) (fun K hK => ?_)
          · (try simp only [List.getElem_toArray]); (try simp only [List.getElem_cons_succ]); (try simp only [List.getElem_cons_zero])
            go_simp; done
          rotate_left
          · (try simp only [List.getElem_toArray]); (try simp only [List.getElem_cons_succ]); (try simp only [List.getElem_cons_zero])
            go_simp; with_reducible rfl
          (try simp only [List.getElem_toArray]); (try simp only [List.getElem_cons_succ]); (try simp only [List.getElem_cons_zero])
          go_simp; refine hK _ ?_; clear hK K
          refine news_nil ?_
          have hmwA := (Hml.out.trans hmd (fun _ _ h => h)).trans hmA (fun _ _ h => h)
          have HmwA := Lib.hid hmwA
          clear hmwA hmd hmA ho7 hG7
          go_wp2_with fail
          go_ret
          exact ⟨ret_bool (by simp), HmwA.out⟩
      · intro id c wu cnt' hkey hlk hfc hrg' hlt2 hmu hzu hen
        have hidw := wf_i Tryz.underlying3 hkey
        obtain ⟨mi, rfl, hin⟩ : ∃ mi, c = .map (some mi) ∧ RIn w4 (refF R id) mi := by
          have h := Hfa4.out.r.at_ id
          rw [hfc] at h
          obtain ⟨mi, h1, -, -, h2⟩ := h
          exact ⟨mi, h1, h2⟩
        have hm4u : Mod (fun _ => False) w4 wu := Hmr.out.upon hmu (fun k hk => .inr (Nat.le_of_eq (Eq.symm hk)))
        have hfau := Hfa4.out.mod hm4u
        have hall := tall_at wu b own C (refM R) N hfau.t (by omega) id hidw
        have hmwu := Hmw4.out.trans hm4u (fun _ _ h => h)
        have Hkey := Lib.hid hkey
        have Hlk := Lib.hid hlk
        have Hfc := Lib.hid hfc
        have Hrg := Lib.hid hrg
        have Hrg' := Lib.hid hrg'
        have Hmu := Lib.hid hmu
        have Hzu := Lib.hid hzu
        have Hidw := Lib.hid hidw
        have Hin := Lib.hid hin
        have Hm4u := Lib.hid hm4u
        have Hfau := Lib.hid hfau
        have Hall := Lib.hid hall
        have Hmwu := Lib.hid hmwu
        clear hkey hlk hfc hrg hrg' hmu hzu hidw hin hm4u hfau hall hmwu
        go_wp2_with fail
        refine Hall.out.mono ?_
        rintro e w6 ⟨gv, G, rfl, hog, hogb, hG, hGc, hm6⟩
        obtain ⟨ga, gc, rfl, -⟩ := hog.shape
        have hm46 := Hm4u.out.trans hm6 (fun _ _ h => h)
        have hmw6 := Hmw4.out.trans hm46 (fun _ _ h => h)
        have hin6 := Hin.out.mod hm46 (fun h => h)
        obtain ⟨n6, f6, hi1, hi2⟩ := hin6
        have hG6 : G.length = (allQ (refM R) id).length := by rw [← hG, List.length_map]
        obtain rfl : n6 = G.length := (rin_len Hfau.out.t hi1 hi2).trans hG6.symm
        have hlen := fun ty => hi1.len Tryz.underlying61 ty
        have hrg6 := Hrg'.out.mod hm6 (fun h => h) (fun h => h)
        have hfa6 := Hfau.out.mod hm6
        obtain ⟨Q, hQ⟩ : ∃ Q, allQ (refM R) id = Q := ⟨_, rfl⟩
        rw [hQ] at hG hG6
        have HG6 := Lib.hid hG6
        have Hog := Lib.hid hog
        have Hogb := Lib.hid hogb
        have HG := Lib.hid hG
        have HGc := Lib.hid hGc
        have Hm6 := Lib.hid hm6
        have Hm46 := Lib.hid hm46
        have Hmw6 := Lib.hid hmw6
        have Hi1 := Lib.hid hi1
        have Hi2 := Lib.hid hi2
        have Hrg6 := Lib.hid hrg6
        have Hfa6 := Lib.hid hfa6
        have HQ := Lib.hid hQ
        clear hG6 hog hogb hG hGc hm6 hm46 hmw6 hi1 hi2 hrg6 hfa6 hQ
        have hnew : FlRel w6 Q S E (.bool false) (.string ⟨#[]⟩) (.int .i64 ((0 : Nat) : Int)) w6 := ⟨0, _, rfl, Nat.zero_le _, rfl, rfl, fun k q h => by omega, Mod.refl _ _⟩
        have hGl : G.length ≤ 60 := by rw [HG6.out, ← HQ.out]; exact Nat.le_trans (allQ_len Hfau.out.t id) (by omega)
        have Hnew := Lib.hid hnew
        clear hnew
        go_wp2_with fail
        clear hlen
        go_loopw [11, 12, 65] (fun wv lv i wr => FlRel w6 Q S E wv lv i wr) (fun _ _ i _ => G.length - (intOf i).toNat)
        case atStart => exact Hnew.out
        case round =>
          revert wr
          intro wm hrel
          obtain ⟨j, s, rfl, hj, rfl, rfl, hlast, hmm⟩ := hrel
          have hm4m := Hm46.out.trans hmm (fun _ _ h => h)
          have hmwm := Hmw6.out.trans hmm (fun _ _ h => h)
          obtain ⟨W, hW⟩ : ∃ W, ((Q.take j).any fun q => rMatF q S E) = W := ⟨_, rfl⟩
          rw [hW]
          by_cases hlt : j < G.length
          · have hlt' : (j : Int) < G.length := by omega
            obtain ⟨x, hxj⟩ : ∃ x, G[j]? = some x := ⟨_, List.getElem?_eq_getElem hlt⟩
            have hqj : Q[j]? = some x.fil := by rw [← HG.out, List.getElem?_map, hxj]; rfl
            have hqm : x.fil ∈ allQ (refM R) id := by rw [HQ.out]; exact List.mem_of_getElem? hqj
            obtain ⟨g, hg1, hg2, hg3⟩ := allQ_ref hqm
            have hgo := Hfa4.out.ok _ hg2
            have hqo : okQ x.fil := refM_okQ Hfa4.out.ok _ (allQ_mem hqm)
            have hmat : rMatF g.fil S E = rMatF x.fil S E := by rw [hg3]; exact (ref_mat Hfa4.out.ok hg2 S E).symm
            obtain ⟨sg, soff, rfl, hcx⟩ : ∃ g off, ga = some ⟨g, off, none⟩ ∧ CellsAt wm g (off + j * 2) x.cells := rd_el (f := Fr.cells) (sz := 2) (fun _ => rfl) (Hog.out.mod hmm (fun _ _ h => h)).rd hxj
            have hxr := ((HGc.out x (List.mem_of_getElem? hxj)).1.mod hmm (fun _ _ h => h)).rd
            obtain ⟨wv, hwv⟩ : ∃ wv : World, wm.alloc (.cells #[.string x.sc, .slice x.a x.cs.length x.c] 29) = wv := ⟨_, rfl⟩
            have hmwv : Mod (fun _ => False) wm wv := hwv ▸ (Mod.refl (fun _ => False) wm).alloc _
            have hgwv := heap_alloc_new wm (.cells #[.string x.sc, .slice x.a x.cs.length x.c] 29)
            rw [hwv] at hgwv
            have hzwv : wv.heap.size = wm.heap.size + 1 := by rw [← hwv]; simp
            have hxr2 := hxr.mod hmwv (fun _ _ h => h)
            have hmw2v := hmwm.trans hmwv (fun _ _ h => h)
            have v2 : wv.cell? ⟨wm.heap.size, 0, none⟩ = some (.string x.sc) := cell_of hgwv rfl
            have v3 : wv.cell? ⟨wm.heap.size, 1, none⟩ = some (.slice x.a x.cs.length x.c) := cell_of hgwv rfl
            have hpr := fprint_at w wv (Hl0.out.mod0 hmw2v) x.sc (.slice x.a x.cs.length x.c) x.cs hxr2 (Nat.le_trans hqo.1 (by decide)) hqo.2.2 hqo.2.1
            have hkl0 := filPrt_len x.sc x.cs hqo.2.1
            have hql : x.cs.length ≤ 19 := hqo.1
            have hqs : x.sc.size ≤ 1000000 := hqo.2.2
            obtain ⟨key, hky⟩ : ∃ key, filPrt x.sc x.cs = key := ⟨_, rfl⟩
            rw [hky] at hpr hkl0
            have hkl : key.length ≤ maxLen := by unfold maxLen; omega
            have hg1k : refF R id key = some g := by rw [← hky]; exact hg1
            have Hlast := Lib.hid hlast
            have Hmm := Lib.hid hmm
            have Hm4m := Lib.hid hm4m
            have Hmwm := Lib.hid hmwm
            have HW := Lib.hid hW
            have Hxj := Lib.hid hxj
            have Hqj := Lib.hid hqj
            have Hqm := Lib.hid hqm
            have Hg1 := Lib.hid hg1
            have Hg2 := Lib.hid hg2
            have Hg3 := Lib.hid hg3
            have Hgo := Lib.hid hgo
            have Hqo := Lib.hid hqo
            have Hmat := Lib.hid hmat
            have Hcx := Lib.hid hcx
            have Hxr := Lib.hid hxr
            have Hwv := Lib.hid hwv
            have Hmwv := Lib.hid hmwv
            have Hgwv := Lib.hid hgwv
            have Hxr2 := Lib.hid hxr2
            have Hmw2v := Lib.hid hmw2v
            have Hpr := Lib.hid hpr
            have Hky := Lib.hid hky
            have Hg1k := Lib.hid hg1k
            clear hlast hmm hm4m hmwm hW hxj hqj hqm hg1 hg2 hg3 hgo hqo hmat hcx hxr hwv hmwv hgwv hxr2 hmw2v hpr hky hg1k hzwv hkl0
            go_wp2_with (first | ((with_reducible refine wpList_load_lit 29 (.tmp 68) ?_); refine ⟨sg, soff + j * 2, rfl, x.cells, Hcx.out, by kernel_rfl, by kernel_rfl, ?_⟩) | ((with_reducible refine wpList_store_lit 29 (.tmp 14) (.tmp 69) ?_); refine ⟨rfl, [.string x.sc, .slice x.a x.cs.length x.c], rfl, rfl, by kernel_rfl, rfl, ?_⟩; rw [Hwv.out]) | fail)
            refine Hpr.out.mono ?_
            rintro e wp ⟨rfl, hmp⟩
            have hm6p := (Hmm.out.trans Hmwv.out (fun _ _ h => h)).trans hmp (fun _ _ h => h)
            have hmwp := Hmw2v.out.trans hmp (fun _ _ h => h)
            have hinp : RIn wp (refF R id) mi := ⟨_, _, Hi1.out.mod hm6p (fun h => h), Hi2.out⟩
            obtain ⟨s1, fa, fn, fc, hlk, hlf⟩ := hinp.look hkl
            obtain ⟨rfl, rfl, rfl, rfl⟩ := hlf g Hg1k.out
            rw [Hg1k.out, Option.isSome_some] at hlk
            obtain ⟨wq, hwq⟩ : ∃ wq : World, wp.alloc (.cells #[.string g.sc, .slice g.a g.cs.length g.c] 29) = wq := ⟨_, rfl⟩
            have hmwq : Mod (fun _ => False) wp wq := hwq ▸ (Mod.refl (fun _ => False) wp).alloc _
            have hgwq := heap_alloc_new wp (.cells #[.string g.sc, .slice g.a g.cs.length g.c] 29)
            rw [hwq] at hgwq
            have hzwq : wq.heap.size = wp.heap.size + 1 := by rw [← hwq]; simp
            have hm6q := hm6p.trans hmwq (fun _ _ h => h)
            have hmwq' := hmwp.trans hmwq (fun _ _ h => h)
            have hm4q := Hm46.out.trans hm6q (fun _ _ h => h)
            have hgvq := (hmp.trans hmwq (fun _ _ h => h)).heap Hgwv.out (fun h => h)
            have hevq := hm4q.heap Hg4.out (fun h => h)
            have hp1 : ∀ w', Mod (fun _ => False) wq w' → Calls Tryz.prog 34 #[.agg #[.string x.sc, .slice x.a x.cs.length x.c], .agg #[.string S, .slice na E.length nc]] w' fun e w'' => e = .returned (.bool (rMatF x.fil S E)) ∧ Mod (fun _ => False) wq w'' := fun w' hw' =>
              (fm_at w' x (Hxr.out.mod ((Hmwv.out.trans hmp (fun _ _ h => h)).trans (hmwq.trans hw' (fun _ _ h => h)) (fun _ _ h => h)) (fun _ _ h => h)) Hqo.out S hS52 _ E (Hrd4.out.mod (hm4q.trans hw' (fun _ _ h => h)) (fun _ _ h => h)) hEl HEr.out HEs.out).mono fun e w'' h => ⟨h.1, hw'.trans h.2 (fun _ _ h => h)⟩
            have hp2 : ∀ w', Mod (fun _ => False) wq w' → Calls Tryz.prog 19 #[.agg #[.string g.sc, .slice g.a g.cs.length g.c], .agg #[.string S, .slice na E.length nc]] w' fun e w'' => e = .returned (.bool (rMatF x.fil S E)) ∧ Mod (fun _ => False) wq w'' := fun w' hw' => by
              have h1 := rm_at w' g (Hgo.out.1.mod (hmwq'.trans hw' (fun _ _ h => h))) Hgo.out.2.1 S hS52 (.slice na E.length nc) E (Hrd4.out.mod (hm4q.trans hw' (fun _ _ h => h)) (fun _ _ h => h)) hEl HEs.out
              rw [Hmat.out] at h1
              exact h1.mono fun e w'' h => ⟨h.1, hw'.trans h.2 (fun _ _ h => h)⟩
            have hf : ∀ w', Mod (fun _ => False) wq w' → (w'.cell? ⟨wm.heap.size, 0, none⟩ = some (.string x.sc) ∧ w'.cell? ⟨wm.heap.size, 1, none⟩ = some (.slice x.a x.cs.length x.c)) ∧ (w'.cell? ⟨wp.heap.size, 0, none⟩ = some (.string g.sc) ∧ w'.cell? ⟨wp.heap.size, 1, none⟩ = some (.slice g.a g.cs.length g.c)) ∧ (w'.cell? ⟨w.heap.size, 0, none⟩ = some (.string S) ∧ w'.cell? ⟨w.heap.size, 1, none⟩ = some (.slice na E.length nc)) := fun w' hw' =>
              ⟨⟨cell_of (hw'.heap hgvq (fun h => h)) rfl, cell_of (hw'.heap hgvq (fun h => h)) rfl⟩, ⟨cell_of (hw'.heap hgwq (fun h => h)) rfl, cell_of (hw'.heap hgwq (fun h => h)) rfl⟩, ⟨cell_of (hw'.heap hevq (fun h => h)) rfl, cell_of (hw'.heap hevq (fun h => h)) rfl⟩⟩
            have hst := any_step Hqj.out (fun q => rMatF q S E)
            rw [HW.out] at hst
            obtain ⟨T, hT⟩ : ∃ T, rMatF x.fil S E = T := ⟨_, rfl⟩
            rw [hT] at hp1 hp2 hst
            have hTT : (T == T) = true := by cases T <;> rfl
            have hsk : (str key).toList = key := by rw [ByteArray.toList_eq]; simp [str]
            have Hmp := Lib.hid hmp
            have Hm6p := Lib.hid hm6p
            have Hmwp := Lib.hid hmwp
            have Hinp := Lib.hid hinp
            have Hlf := Lib.hid hlf
            have Hwq := Lib.hid hwq
            have Hmwq := Lib.hid hmwq
            have Hgwq := Lib.hid hgwq
            have Hm6q := Lib.hid hm6q
            have Hmwq' := Lib.hid hmwq'
            have Hm4q := Lib.hid hm4q
            have Hgvq := Lib.hid hgvq
            have Hevq := Lib.hid hevq
            have Hp1 := Lib.hid hp1
            have Hp2 := Lib.hid hp2
            have Hf := Lib.hid hf
            have Hst := Lib.hid hst
            have HT := Lib.hid hT
            clear hmp hm6p hmwp hinp hlf hwq hmwq hgwq hm6q hmwq' hm4q hgvq hevq hp1 hp2 hf hst hT hzwq
            by_cases hj0 : j = 0
            · subst hj0
              go_wp2_with (first | ((with_reducible refine wpList_store_lit 29 (.tmp 16) (.tmp 76) ?_); refine ⟨rfl, [.string g.sc, .slice g.a g.cs.length g.c], rfl, rfl, by kernel_rfl, rfl, ?_⟩; rw [Hwq.out]) | fail)
              refine wp_region_news (by kernel_rfl) (by kernel_rfl) ?_
              iterate 20 (first
                | (refine quiet_skip ?_ (fun K hK => ?_)
                   · first | (go_simp; done) | (go_simp; simp [undef]; done)
                   go_simp; refine hK _ ?_; clear hK K)
                | (refine quiet_do ?_ ?_ (fun w' hw' => ?_) (fun K hK => ?_)
                   · first | (go_simp; done) | (go_simp; simp [undef]; done)
                   rotate_left
                   · obtain ⟨⟨f1, f2⟩, ⟨f3, f4⟩, ⟨f5, f6⟩⟩ := Hf.out w' hw'
                     go_simp
                     rfl
                   go_simp; refine hK _ ?_; clear hK K)
                | (refine quiet_in ?_ ?_ ?_ ?_ (fun w' hw' => ?_) ?_ (fun K hK => ?_)
                   · first | (go_simp; done) | (go_simp; simp [undef]; done)
                   rotate_left 3
                   · obtain ⟨⟨f1, f2⟩, ⟨f3, f4⟩, ⟨f5, f6⟩⟩ := Hf.out w' hw'
                     go_simp
                     constructor <;> rfl
                   · first | with_reducible exact Hp1.out | with_reducible exact Hp2.out
                   go_simp; refine hK _ ?_; clear hK K))
              refine quiet_end (fun w' hw' => ?_)
              have hm6w := Hm6q.out.trans hw' (fun _ _ h => h)
              have hq3 := fun wx (h : Mod (fun _ => False) w' wx) => Hp1.out wx (hw'.trans h (fun _ _ h => h))
              obtain ⟨⟨f1, f2⟩, -, f5, f6⟩ := Hf.out w' hw'
              have hp3 := Hp1.out w' hw'
              have Hm6w := Lib.hid hm6w
              have Hp3 := Lib.hid hp3
              clear hm6w hp3 hw' hq3
              cases W with
              | true =>
                go_wp2_with fail
                go_roundw
                case rel =>
                  refine ⟨1, _, by go_num, by have := HG6.out; omega, ?_, rfl, fun k q hk hq => ?_, Hm6w.out⟩
                  · rw [Hst.out]; rfl
                  · obtain rfl : k = 0 := by omega
                    rw [Hqj.out] at hq
                    cases hq
                    rw [← Hky.out]
                    rfl
                case measure => simp [intOf]; omega
              | false =>
                go_wp2_with fail
                refine Hp3.out.mono ?_
                rintro e wy ⟨rfl, hmy⟩
                have hm6y := Hm6q.out.trans hmy (fun _ _ h => h)
                have Hm6y := Lib.hid hm6y
                have Hmy := Lib.hid hmy
                clear hm6y hmy
                go_wp2_with fail
                go_roundw
                case rel =>
                  refine ⟨1, _, by go_num, by have := HG6.out; omega, ?_, rfl, fun k q hk hq => ?_, Hm6y.out⟩
                  · rw [Hst.out]; rfl
                  · obtain rfl : k = 0 := by omega
                    rw [Hqj.out] at hq
                    cases hq
                    rw [← Hky.out]
                    rfl
                case measure => simp [intOf]; omega
            · obtain ⟨k, rfl⟩ : ∃ k, j = k + 1 := ⟨j - 1, by omega⟩
              obtain ⟨q0, hq0⟩ : ∃ q0, Q[k]? = some q0 := ⟨_, List.getElem?_eq_getElem (by have := HG6.out; omega)⟩
              obtain rfl := Hlast.out k q0 rfl hq0
              have hltk : keyF q0 < key := by
                have h0 := allQ_lt Hfau.out.t id
                rw [HQ.out] at h0
                obtain ⟨i1, rfl⟩ := List.getElem?_eq_some_iff.1 hq0
                obtain ⟨i2, e2⟩ := List.getElem?_eq_some_iff.1 Hqj.out
                have h1 := List.pairwise_iff_getElem.1 h0 k (k + 1) i1 i2 (by omega)
                rw [e2] at h1
                rw [← Hky.out]
                exact h1
              have hbl : Op.bytesLess (keyF q0) key = true := by rw [Go.Proofs.bytesLess_eq]; exact decide_eq_true hltk
              have hs0 : (str (keyF q0)).toList = keyF q0 := by rw [ByteArray.toList_eq]; simp [str]
              have hk0 : decide ((0 : Int) < ((k + 1 : Nat) : Int)) = true := decide_eq_true (by omega)
              have Hq0 := Lib.hid hq0
              have Hltk := Lib.hid hltk
              clear hq0 hltk
              go_wp2_with (first | ((with_reducible refine wpList_store_lit 29 (.tmp 16) (.tmp 76) ?_); refine ⟨rfl, [.string g.sc, .slice g.a g.cs.length g.c], rfl, rfl, by kernel_rfl, rfl, ?_⟩; rw [Hwq.out]) | fail)
              refine wp_region_news (by kernel_rfl) (by kernel_rfl) ?_
              iterate 20 (first
                | (refine quiet_skip ?_ (fun K hK => ?_)
                   · first | (go_simp; done) | (go_simp; simp [undef]; done)
                   go_simp; refine hK _ ?_; clear hK K)
                | (refine quiet_do ?_ ?_ (fun w' hw' => ?_) (fun K hK => ?_)
                   · first | (go_simp; done) | (go_simp; simp [undef]; done)
                   rotate_left
                   · obtain ⟨⟨f1, f2⟩, ⟨f3, f4⟩, ⟨f5, f6⟩⟩ := Hf.out w' hw'
                     go_simp
                     rfl
                   go_simp; refine hK _ ?_; clear hK K)
                | (refine quiet_in ?_ ?_ ?_ ?_ (fun w' hw' => ?_) ?_ (fun K hK => ?_)
                   · first | (go_simp; done) | (go_simp; simp [undef]; done)
                   rotate_left 3
                   · obtain ⟨⟨f1, f2⟩, ⟨f3, f4⟩, ⟨f5, f6⟩⟩ := Hf.out w' hw'
                     go_simp
                     constructor <;> rfl
                   · first | with_reducible exact Hp1.out | with_reducible exact Hp2.out
                   go_simp; refine hK _ ?_; clear hK K))
              refine quiet_end (fun w' hw' => ?_)
              have hm6w := Hm6q.out.trans hw' (fun _ _ h => h)
              have hq3 := fun wx (h : Mod (fun _ => False) w' wx) => Hp1.out wx (hw'.trans h (fun _ _ h => h))
              obtain ⟨⟨f1, f2⟩, -, f5, f6⟩ := Hf.out w' hw'
              have hp3 := Hp1.out w' hw'
              have Hm6w := Lib.hid hm6w
              have Hp3 := Lib.hid hp3
              clear hm6w hp3 hw' hq3
              cases W with
              | true =>
                go_wp2_with fail
                go_roundw
                case rel =>
                  refine ⟨k + 1 + 1, _, by go_num, by have := HG6.out; omega, ?_, rfl, fun k2 q hk hq => ?_, Hm6w.out⟩
                  · rw [Hst.out]; rfl
                  · obtain rfl : k2 = k + 1 := by omega
                    rw [Hqj.out] at hq
                    cases hq
                    rw [← Hky.out]
                    rfl
                case measure => simp [intOf]; omega
              | false =>
                go_wp2_with fail
                refine Hp3.out.mono ?_
                rintro e wy ⟨rfl, hmy⟩
                have hm6y := Hm6q.out.trans hmy (fun _ _ h => h)
                have Hm6y := Lib.hid hm6y
                have Hmy := Lib.hid hmy
                clear hm6y hmy
                go_wp2_with fail
                go_roundw
                case rel =>
                  refine ⟨k + 1 + 1, _, by go_num, by have := HG6.out; omega, ?_, rfl, fun k2 q hk hq => ?_, Hm6y.out⟩
                  · rw [Hst.out]; rfl
                  · obtain rfl : k2 = k + 1 := by omega
                    rw [Hqj.out] at hq
                    cases hq
                    rw [← Hky.out]
                    rfl
                case measure => simp [intOf]; omega
          · have hQG := HG6.out
            obtain rfl : j = G.length := by omega
            have hW2 : ((allQ (refM R) id).any fun q => rMatF q S E) = W := by
              rw [HQ.out, ← hW, hQG, List.take_length]
            have hwt := twants_at wm b own C (refM R) N (Hfa6.out.mod hmm).t (by omega) (refM_okQ Hfa4.out.ok) id Hidw.out S na nc E hS52 (Hrd4.out.mod hm4m (fun _ _ h => h)) hEl HEr.out HEs.out
            rw [hW2] at hwt
            have hgm := hm4m.heap Hg4.out (fun h => h)
            have f5 : wm.cell? ⟨w.heap.size, 0, none⟩ = some (.string S) := cell_of hgm rfl
            have f6 : wm.cell? ⟨w.heap.size, 1, none⟩ = some (.slice na E.length nc) := cell_of hgm rfl
            have hrgm := Hrg6.out.mod hmm (fun h => h) (fun h => h)
            have hWW : (W == W) = true := by cases W <;> rfl
            have Hlast := Lib.hid hlast
            have Hmm := Lib.hid hmm
            have Hm4m := Lib.hid hm4m
            have Hmwm := Lib.hid hmwm
            have HW := Lib.hid hW
            have HW2 := Lib.hid hW2
            have Hwt := Lib.hid hwt
            have Hgm := Lib.hid hgm
            have Hrgm := Lib.hid hrgm
            clear hlast hmm hm4m hmwm hW hW2 hwt hgm hrgm
            go_wp2_with fail
            refine Hwt.out.mono ?_
            rintro e wx ⟨rfl, hmx⟩
            have hrgx := Hrgm.out.mod hmx (fun h => h) (fun h => h)
            have hm4x := Hm4m.out.trans hmx (fun _ _ h => h)
            have Hmx := Lib.hid hmx
            have Hrgx := Lib.hid hrgx
            have Hm4x := Lib.hid hm4x
            clear hmx hrgx hm4x
            go_wp2_with fail
            go_roundw
            case rel => exact ⟨_, cnt', Hrgx.out, Hm4x.out⟩
            case measure => rw [Hrgx.out.left_eq, Hrg.out.left_eq]; exact hlt2
end Go.Proofs.YtloplmaekonenaaGreatDoor
