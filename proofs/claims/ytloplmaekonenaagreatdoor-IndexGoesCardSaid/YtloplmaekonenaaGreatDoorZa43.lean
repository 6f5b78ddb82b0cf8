/-
  gazettelaw13.IndexGoes.
-/
import Derived.Test.YtloplmaekonenaaGreatDoorZa38
import Derived.Test.YtloplmaekonenaaGreatDoorZa42
import Derived.Test.YtloplmaekonenaaGreatDoorZa14
namespace Go.Proofs.YtloplmaekonenaaGreatDoor
set_option maxRecDepth 20000
open Go.RowKit

/-- A filter in memory. -/
structure Fr where
  sc : ByteArray
  a : Option Addr
  c : Nat
  cs : List Cnd
def Fr.cells (f : Fr) : List Value := [.string f.sc, .slice f.a f.cs.length f.c]
/-- Filters in memory: what each is made of is in range. -/
structure FrsAt (w : World) (v : Value) (l : List Fr) : Prop where
  rd : RdSl w 2 v l.length (l.flatMap Fr.cells)
  cs : ∀ f ∈ l, RdSl w 7 (.slice f.a f.cs.length f.c) f.cs.length (cnds f.cs)
  sc : ∀ f ∈ l, f.sc.size ≤ 9223372036854775807 ∧ f.cs.length ≤ 9223372036854775807
  nm : ∀ f ∈ l, ∀ c ∈ f.cs, c.name.size ≤ 9223372036854775807 ∧ (-9223372036854775808 ≤ c.v.int ∧ c.v.int ≤ 9223372036854775807) ∧ c.v.num < 2 ^ 64
theorem FrsAt.mod {w w' : World} {v : Value} {l : List Fr} (h : FrsAt w v l) (hm : Mod (fun _ => False) w w') : FrsAt w' v l := ⟨h.rd.mod hm (fun _ _ h => h), fun f hf => (h.cs f hf).mod hm (fun _ _ h => h), h.sc, h.nm⟩

/-- What the index holds when the first j filters stand in it. -/
def goesI (l : List Fr) (j : Nat) : List (Int × Fil) := (l.take j).zipIdx.map fun p => (((3 * p.2 : Nat) : Int), (p.1.sc, normC p.1.cs))
theorem goesI_snoc {l : List Fr} {j : Nat} {x : Fr} (h : l[j]? = some x) : goesI l (j + 1) = goesI l j ++ [(((3 * j : Nat) : Int), (x.sc, normC x.cs))] := by
  obtain ⟨hj, hx⟩ := List.getElem?_eq_some_iff.1 h
  unfold goesI
  rw [List.take_succ_eq_append_getElem hj, hx, List.zipIdx_append, List.map_append]
  have hl : (l.take j).length = j := by rw [List.length_take]; omega
  rw [hl]
  simp
theorem goesI_none {l : List Fr} {j : Nat} : idxF (goesI l j) ((3 * j : Nat) : Int) = none := by
  unfold idxF
  rw [Option.map_eq_none_iff, List.find?_eq_none]
  intro p hp
  unfold goesI at hp
  obtain ⟨⟨x, k⟩, h1, rfl⟩ := List.mem_map.1 hp
  have h2 := (List.mem_zipIdx h1).2.1
  rw [List.length_take] at h2
  simp only [beq_iff_eq]
  omega
theorem goesI_one {l : List Fr} {j : Nat} : idxF (goesI l j) 1 = none := by
  unfold idxF
  rw [Option.map_eq_none_iff, List.find?_eq_none]
  intro p hp
  unfold goesI at hp
  obtain ⟨⟨x, k⟩, h1, rfl⟩ := List.mem_map.1 hp
  simp only [beq_iff_eq]
  omega
theorem goesI_has {l : List Fr} {k : Nat} (h : k < l.length) : ((3 * k : Nat) : Int) ∈ (goesI l l.length).map Prod.fst := by
  unfold goesI
  rw [List.take_length, List.map_map]
  refine List.mem_map.2 ⟨(l[k], k), ?_, rfl⟩
  rw [List.mem_zipIdx_iff_getElem?]
  exact List.getElem?_eq_getElem h
theorem filter_at {α : Type} {W : List α} {p : α → Bool} {j : Nat} {x : α} (h : W[j]? = some x) (hp : p x = true) : (W.filter p)[((W.take j).filter p).length]? = some x := by
  obtain ⟨hj, rfl⟩ := List.getElem?_eq_some_iff.1 h
  have e : W.filter p = (W.take j).filter p ++ (W.drop j).filter p := by rw [← List.filter_append, List.take_append_drop]
  rw [e, List.getElem?_append_right (Nat.le_refl _), Nat.sub_self, List.drop_eq_getElem_cons hj, List.filter_cons, if_pos hp]
  rfl
/-- A round of the loop that compares. -/
def GoCmp (w : World) (W : List Int) (g : Int) (kv iv : Value) (wr : World) : Prop :=
  ∃ j k : Nat, iv = .int .i64 j ∧ kv = .int .i64 k ∧ j ≤ W.length ∧ k = ((W.take j).filter fun x => !(x == g)).length ∧ Mod (fun _ => False) w wr
theorem matL_len (I : List (Int × Fil)) (es : ByteArray) (L : List Att) : (matL I es L).length ≤ I.length := by
  unfold matL
  refine Nat.le_trans (List.length_filter_le _ _) ?_
  unfold riseI
  rw [List.length_mergeSort, List.length_map]
  exact Nat.le_refl _
theorem goesI_len (l : List Fr) : (goesI l l.length).length = l.length := by unfold goesI; rw [List.take_length, List.length_map, List.length_zipIdx]
theorem wf_small {n : Int} (h : 0 ≤ n ∧ n ≤ 1000000) : (Lit.int .i64 n).wf = true := by
  simp only [Lit.wf, Bool.and_eq_true, decide_eq_true_eq]
  exact ⟨show (-9223372036854775808 : Int) ≤ n by omega, show n ≤ (9223372036854775807 : Int) by omega⟩
/-- A round of the loop that adds. -/
def GoRel (w : World) (b : Nat) (l : List Fr) (i : Value) (wr : World) : Prop :=
  ∃ (j : Nat) (own C : Nat → Prop), i = .int .i64 j ∧ j ≤ l.length ∧ Idx wr b own C (goesI l j) (20 * j) ∧ (∀ k, own k → w.heap.size ≤ k) ∧ (∀ k, C k → w.heap.size ≤ k) ∧ (∀ f ∈ l.take j, filRight f.sc f.cs = true) ∧ Mod (fun _ => False) w wr

set_option maxHeartbeats 8000000 in
theorem goes_walk (w : World) (hl : LaidAt w) (hn : 16 ≤ w.heap.size) (v : Value) (l : List Fr) (hv : FrsAt w v l) (gone : Int) (es : ByteArray) (ev : Value) (L : List Att) (hes : es.size ≤ 9223372036854775807) (hev : RdSl w 6 ev L.length (atts L)) (hLn : ∀ x ∈ newL L, x.name.size ≤ 9223372036854775807) :
    Calls Tryz.prog 5 #[v, .int .i64 gone, .agg #[.string es, ev]] w fun e w' => e = .returned (.bool true) ∧ Mod (fun _ => False) w w' := by
  obtain ⟨va, vc, rfl, hvc⟩ : ∃ a c, v = .slice a l.length c ∧ l.length ≤ c := by obtain ⟨-, a, c, h, h2, -⟩ := hv.rd; exact ⟨a, c, h, h2⟩
  obtain ⟨ea, ec, rfl, hec⟩ : ∃ a c, ev = .slice a L.length c ∧ L.length ≤ c := by obtain ⟨-, a, c, h, h2, -⟩ := hev; exact ⟨a, c, h, h2⟩
  obtain ⟨wa, hwa⟩ : ∃ wa : World, w.alloc (.cells #[.string es, .slice ea L.length ec] 32) = wa := ⟨_, rfl⟩
  have hmwa : Mod (fun _ => False) w wa := hwa ▸ (Mod.refl (fun _ => False) w).alloc _
  have hgwa := heap_alloc_new w (.cells #[.string es, .slice ea L.length ec] 32)
  rw [hwa] at hgwa
  have hzwa : wa.heap.size = w.heap.size + 1 := by rw [← hwa]; simp
  have hl0 : Laid w w := ⟨hl, hn, ⟨rfl, rfl, rfl, Nat.le_refl _, fun _ _ => rfl⟩⟩
  have hla := hl0.mod0 hmwa
  have hfit := fit13_at w wa hla
  have c0 : wa.cell? ⟨w.heap.size, 0, none⟩ = some (.string es) := cell_of hgwa rfl
  have c1 : wa.cell? ⟨w.heap.size, 1, none⟩ = some (.slice ea L.length ec) := cell_of hgwa rfl
  have Hl := Lib.hid hl
  have Hv := Lib.hid hv
  have Hev := Lib.hid hev
  have Hwa := Lib.hid hwa
  have Hmwa := Lib.hid hmwa
  have Hgwa := Lib.hid hgwa
  have Hl0 := Lib.hid hl0
  have Hla := Lib.hid hla
  have Hfit := Lib.hid hfit
  clear hl hv hev hwa hmwa hgwa hl0 hla hfit hzwa
  go_enter Tryz.func5, Tryz.ntmps5
  go_wp2_with (first | (rw [show w.alloc _ = wa from Hwa.out]) | fail)
  refine Hfit.out.mono ?_
  rintro e w1 ⟨rfl, hm1⟩
  have hmw1 := Hmwa.out.trans hm1 (fun _ _ h => h)
  have d0 : w1.cell? ⟨w.heap.size, 0, none⟩ = some (.string es) := hm1.cell c0 (fun h => h)
  have d1 : w1.cell? ⟨w.heap.size, 1, none⟩ = some (.slice ea L.length ec) := hm1.cell c1 (fun h => h)
  have hg1 := hm1.heap Hgwa.out (fun h => h)
  by_cases z1 : l.length = 0
  · have z1' : ((l.length : Nat) : Int) = 0 := by omega
    have Hm1 := Lib.hid hm1
    have Hmw1 := Lib.hid hmw1
    have Hg1 := Lib.hid hg1
    clear hm1 hmw1 hg1 c0 c1
    go_wp2_with fail
    go_ret
    exact ⟨rfl, Hmw1.out⟩
  by_cases z2 : 20 < l.length
  · have z2' : (20 : Int) < ((l.length : Nat) : Int) := by omega
    have z1' : ¬ ((l.length : Nat) : Int) = 0 := by omega
    have Hm1 := Lib.hid hm1
    have Hmw1 := Lib.hid hmw1
    have Hg1 := Lib.hid hg1
    clear hm1 hmw1 hg1 c0 c1
    go_wp2_with fail
    go_ret
    exact ⟨rfl, Hmw1.out⟩
  have z1' : ¬ ((l.length : Nat) : Int) = 0 := by omega
  have z2' : ((l.length : Nat) : Int) ≤ 20 := by omega
  by_cases z3 : 60 < es.size
  · have z3' : (60 : Int) < ((es.size : Nat) : Int) := by omega
    have Hm1 := Lib.hid hm1
    have Hmw1 := Lib.hid hmw1
    have Hg1 := Lib.hid hg1
    clear hm1 hmw1 hg1 c0 c1
    go_wp2_with fail
    go_ret
    exact ⟨rfl, Hmw1.out⟩
  have z3' : ((es.size : Nat) : Int) ≤ 60 := by omega
  by_cases z4 : 20 < L.length
  · have z4' : (20 : Int) < ((L.length : Nat) : Int) := by omega
    have Hm1 := Lib.hid hm1
    have Hmw1 := Lib.hid hmw1
    have Hg1 := Lib.hid hg1
    clear hm1 hmw1 hg1 c0 c1
    go_wp2_with fail
    go_ret
    exact ⟨rfl, Hmw1.out⟩
  have z4' : ((L.length : Nat) : Int) ≤ 20 := by omega
  have zd : decide ((20 : Int) < ((L.length : Nat) : Int)) = false := decide_eq_false (by omega)
  have hnew := inew_at w1
  have Hm1 := Lib.hid hm1
  have Hmw1 := Lib.hid hmw1
  have Hg1 := Lib.hid hg1
  have Hnew := Lib.hid hnew
  clear hm1 hmw1 hg1 hnew c0 c1
  go_wp2_with fail
  all_goals first | (exfalso; omega) | skip
  refine Hnew.out.mono ?_
  rintro e w2 ⟨b, own0, rfl, hix, hown0, hm2⟩
  have hmw2 := Hmw1.out.trans hm2 (fun _ _ h => h)
  have hg2 := hm2.heap Hg1.out (fun h => h)
  have e0 : w2.cell? ⟨w.heap.size, 0, none⟩ = some (.string es) := cell_of hg2 rfl
  have e1 : w2.cell? ⟨w.heap.size, 1, none⟩ = some (.slice ea L.length ec) := cell_of hg2 rfl
  have hrel0 : GoRel wa b l (.int .i64 ((0 : Nat) : Int)) w2 := ⟨0, own0, _, rfl, Nat.zero_le _, hix, fun k hk => by have h1 := (hown0 k hk).1; have h2 := Hm1.out.size; omega, fun _ h => h.elim, fun f hf => by simp at hf, Hm1.out.trans hm2 (fun _ _ h => h)⟩
  have Hix := Lib.hid hix
  have Hown0 := Lib.hid hown0
  have Hm2 := Lib.hid hm2
  have Hmw2 := Lib.hid hmw2
  have Hg2 := Lib.hid hg2
  have Hrel0 := Lib.hid hrel0
  clear hix hown0 hm2 hmw2 hg2 hrel0 d0 d1
  go_wp2_with fail
  go_loopw [40] (fun i wr => GoRel wa b l i wr) (fun i _ => l.length - (intOf i).toNat)
  case atStart => exact Hrel0.out
  case round =>
    obtain ⟨j, own, C, rfl, hj, hix, hownA, hCA, hri, hmra⟩ := hrel
    have hmr := Hmwa.out.trans hmra (fun _ _ h => h)
    have hown : ∀ k, own k → w.heap.size ≤ k := fun k hk => Nat.le_trans Hmwa.out.size (hownA k hk)
    by_cases hlt : j < l.length
    · have hlt' : (j : Int) < l.length := by omega
      obtain ⟨x, hxj⟩ : ∃ x, l[j]? = some x := ⟨_, List.getElem?_eq_getElem hlt⟩
      have hxm := List.mem_of_getElem? hxj
      obtain ⟨g, off, rfl, hf0⟩ : ∃ g off, va = some ⟨g, off, none⟩ ∧ CellsAt w g (off + j * 2) x.cells := rd_el (f := Fr.cells) (fun _ => rfl) Hv.out.rd hxj
      have hf := hf0.mod hmr (fun h => h)
      obtain ⟨wz, hwz⟩ : ∃ wz : World, wr.alloc (.cells x.cells.toArray 29) = wz := ⟨_, rfl⟩
      have hmwz : Mod (fun _ => False) wr wz := hwz ▸ (Mod.refl (fun _ => False) wr).alloc _
      have hgwz := heap_alloc_new wr (.cells x.cells.toArray 29)
      rw [hwz] at hgwz
      have hzwz : wz.heap.size = wr.heap.size + 1 := by rw [← hwz]; simp
      have hmwz2 := hmr.trans hmwz (fun _ _ h => h)
      have hrx := (Hv.out.cs x hxm).mod hmwz2 (fun _ _ h => h)
      have hlt7 := light07_at wz x.sc (.slice x.a x.cs.length x.c) x.cs hrx (Hv.out.sc x hxm).2
      have haz := (CellsAt.row hgwz)
      have k0 : wz.cell? ⟨wr.heap.size, 0, none⟩ = some (.string x.sc) := cell_of hgwz rfl
      have k1 : wz.cell? ⟨wr.heap.size, 1, none⟩ = some (.slice x.a x.cs.length x.c) := cell_of hgwz rfl
      have Hxj := Lib.hid hxj
      have Hxm := Lib.hid hxm
      have Hf0 := Lib.hid hf0
      have Hf := Lib.hid hf
      have Hwz := Lib.hid hwz
      have Hmwz := Lib.hid hmwz
      have Hgwz := Lib.hid hgwz
      have Hmwz2 := Lib.hid hmwz2
      have Hrx := Lib.hid hrx
      have Hlt7 := Lib.hid hlt7
      have Haz := Lib.hid haz
      have Hix := Lib.hid hix
      have Hown := Lib.hid hown
      have Hri := Lib.hid hri
      have Hmr := Lib.hid hmr
      have Hmra := Lib.hid hmra
      have HownA := Lib.hid hownA
      have HCA := Lib.hid hCA
      clear hxj hxm hf0 hf hwz hmwz hgwz hmwz2 hrx hlt7 haz hix hown hri hmr hmra hownA hCA hzwz
      go_wp2_with (first | ((with_reducible refine wpList_load_lit 29 (.tmp 43) ?_); refine ⟨g, off + j * 2, rfl, x.cells, Hf.out, by kernel_rfl, by kernel_rfl, ?_⟩) | ((with_reducible refine wpList_store_lit 29 (.tmp 9) (.tmp 44) ?_); refine ⟨rfl, x.cells, rfl, rfl, by kernel_rfl, rfl, ?_⟩; rw [Hwz.out]) | fail)
      refine Hlt7.out.mono ?_
      rintro e w3 ⟨t, rfl, hm3⟩
      have hm03 := Hmwz2.out.trans hm3 (fun _ _ h => h)
      cases t with
      | false =>
        have Hm3 := Lib.hid hm3
        have Hm03 := Lib.hid hm03
        clear hm3 hm03
        go_wp2_with fail
        go_ret
        exact ⟨rfl, Hm03.out⟩
      | true =>
        have k2 : w3.cell? ⟨wr.heap.size, 0, none⟩ = some (.string x.sc) := hm3.cell k0 (fun h => h)
        have k3 : w3.cell? ⟨wr.heap.size, 1, none⟩ = some (.slice x.a x.cs.length x.c) := hm3.cell k1 (fun h => h)
        have hfr := filter_right w3 x.sc (.slice x.a x.cs.length x.c) x.cs (Hrx.out.mod hm3 (fun _ _ h => h)) (Hv.out.sc x Hxm.out).2 (Hv.out.sc x Hxm.out).1 (fun c hc => (Hv.out.nm x Hxm.out c hc).1)
        obtain ⟨u, hu⟩ : ∃ u, filRight x.sc x.cs = u := ⟨_, rfl⟩
        rw [hu] at hfr
        have Hm3 := Lib.hid hm3
        have Hm03 := Lib.hid hm03
        have Hfr := Lib.hid hfr
        have Hu := Lib.hid hu
        clear hm3 hm03 hfr hu k0 k1
        go_wp2_with fail
        refine Hfr.out.mono ?_
        rintro e w4 ⟨rfl, hm4⟩
        have hm04 := Hm03.out.trans hm4 (fun _ _ h => h)
        cases u with
        | false =>
          have Hm4 := Lib.hid hm4
          have Hm04 := Lib.hid hm04
          clear hm4 hm04
          go_wp2_with fail
          go_ret
          exact ⟨rfl, Hm04.out⟩
        | true =>
          have k4 : w4.cell? ⟨wr.heap.size, 0, none⟩ = some (.string x.sc) := hm4.cell k2 (fun h => h)
          have k5 : w4.cell? ⟨wr.heap.size, 1, none⟩ = some (.slice x.a x.cs.length x.c) := hm4.cell k3 (fun h => h)
          have hb := fil_bounds Hu.out
          have hmr4 : Mod (fun _ => False) wr w4 := ((Hmwz.out.trans Hm3.out (fun _ _ h => h)).trans hm4 (fun _ _ h => h))
          have hadd := iadd_at w w4 (Hl0.out.mod0 hm04) b own C (goesI l j) (20 * j) (Hix.out.mod hmr4 (fun _ _ h => h)) (by omega) Hown.out (3 * (j : Int)) (wf_small (by omega)) x.sc (.slice x.a x.cs.length x.c) x.cs (Hrx.out.mod (Hm3.out.trans hm4 (fun _ _ h => h)) (fun _ _ h => h)) (by omega)
            (fun c hc => ⟨⟨(Hv.out.nm x Hxm.out c hc).2.1, (Hv.out.nm x Hxm.out c hc).2.2, by have := (hb.2.2 c hc).2.2.2; omega⟩, by have := (hb.2.2 c hc).1; omega⟩) (by omega)
          have Hm4 := Lib.hid hm4
          have Hm04 := Lib.hid hm04
          have Hb := Lib.hid hb
          have Hmr4 := Lib.hid hmr4
          have Hadd := Lib.hid hadd
          clear hm4 hm04 hb hmr4 hadd k2 k3
          go_wp2_with fail
          refine Hadd.out.mono ?_
          have h3j : ((3 * j : Nat) : Int) = 3 * (j : Int) := by omega
          rintro e w5 (⟨h, -⟩ | ⟨-, rfl, own', C', hix2, ho1, ho2, ho3, hm5⟩)
          · exact absurd (h3j ▸ goesI_none) h
          have hm05 : Mod (fun _ => False) wa w5 := (Hmra.out.trans Hmr4.out (fun _ _ h => h)).upon hm5 (fun k hk => .inr (HownA.out k hk))
          have hmsz := (Hmra.out.trans Hmr4.out (fun _ _ h => h)).size
          have hgs := goesI_snoc Hxj.out
          have Hix2 := Lib.hid hix2
          have Ho1 := Lib.hid ho1
          have Ho2 := Lib.hid ho2
          have Ho3 := Lib.hid ho3
          have Hm5 := Lib.hid hm5
          have Hm05 := Lib.hid hm05
          have Hgs := Lib.hid hgs
          clear hix2 ho1 ho2 ho3 hm5 hm05 hgs
          go_wp2_with fail
          go_roundw
          case rel =>
            refine ⟨j + 1, own', C', by go_num, hlt, ?_, fun k hk => ?_, fun k hk => (Ho3.out k hk).elim (HCA.out k) (fun h => Nat.le_trans hmsz h), fun f hf => ?_, Hm05.out⟩
            · rw [Hgs.out, h3j]
              have := Hix2.out
              rwa [show 20 * j + 20 = 20 * (j + 1) by omega] at this
            · rcases Ho2.out k hk with h | h
              · exact HownA.out k h
              · exact Nat.le_trans hmsz h
            · rw [List.take_add_one, Hxj.out] at hf
              rcases List.mem_append.1 hf with hf | hf
              · exact Hri.out f hf
              · obtain rfl : f = x := by simpa using hf
                exact Hu.out
          case measure => simp [intOf]; omega
    · obtain rfl : j = l.length := by omega
      rw [List.take_length] at hri
      have hg3 := hmra.heap Hgwa.out (fun h => h)
      have k0 : wr.cell? ⟨w.heap.size, 0, none⟩ = some (.string es) := cell_of hg3 rfl
      have k1 : wr.cell? ⟨w.heap.size, 1, none⟩ = some (.slice ea L.length ec) := cell_of hg3 rfl
      have hevt := ev7_at wr es (.slice ea L.length ec) L (Hev.out.mod hmr (fun _ _ h => h)) (by omega) hes hLn
      have Hri := Lib.hid hri
      have Hg3 := Lib.hid hg3
      have Hmra := Lib.hid hmra
      have Hmr := Lib.hid hmr
      have Hown := Lib.hid hown
      have HownA := Lib.hid hownA
      have HCA := Lib.hid hCA
      have Hix := Lib.hid hix
      have Hevt := Lib.hid hevt
      clear hri hg3 hmra hmr hown hownA hCA hix hevt
      go_wp2_with fail
      refine Hevt.out.mono ?_
      rintro e w3 ⟨av, rfl, hoa, hfa, hm3⟩
      obtain ⟨na, nc, rfl, hnc⟩ := hoa.shape
      have hg4 := hm3.heap Hg3.out (fun h => h)
      obtain ⟨E, hE⟩ : ∃ E, ev7L L = E := ⟨_, rfl⟩
      rw [hE] at hoa hfa hnc ⊢
      obtain ⟨G, hG1, hG2⟩ : ∃ G : Nat, G < l.length ∧ (bits BinOp.and IntKind.i64 gone 65535).tmod (l.length : Int) = G := by
        obtain ⟨t, ht, -⟩ := andp16 gone
        exact ⟨t % l.length, Nat.mod_lt _ (by omega), by rw [ht]; rfl⟩
      have hG3 : (G : Int) < 20 := by omega
      have Hoa := Lib.hid hoa
      have Hfa := Lib.hid hfa
      have Hm3 := Lib.hid hm3
      have Hg4 := Lib.hid hg4
      have HE := Lib.hid hE
      clear hoa hfa hm3 hg4 hE k0 k1
      go_wp2_with (first | ((with_reducible refine wpList_store_row_lit 32 (.tmp 5) (.tmp 63) ?_); refine ⟨w.heap.size, rfl, _, _, Hg4.out, [.string (ev7S es), .slice na E.length nc], rfl, rfl, by kernel_rfl, rfl, ?_⟩; intro w4 h4 hm4; have n0 : w4.cell? ⟨w.heap.size, 0, none⟩ = some (.string (ev7S es)) := cell_of h4 rfl; have n1 : w4.cell? ⟨w.heap.size, 1, none⟩ = some (.slice na E.length nc) := cell_of h4 rfl; have H4 := Lib.hid h4; have Hm4 := Lib.hid hm4; clear h4 hm4) | fail)
      have hwb : w.heap.size < wa.heap.size := (Array.getElem?_eq_some_iff.1 Hgwa.out).1
      have hix4 : Idx w4 b own C (goesI l l.length) (20 * l.length) := (Hix.out.mod Hm3.out (fun _ _ h => h)).mod2 Hm4.out (fun k _ hk => ⟨fun h => by have h1 := HownA.out k h; have h2 : k = w.heap.size := hk; omega, fun h => by have h1 := HCA.out k h; have h2 : k = w.heap.size := hk; omega⟩)
      have hEl : E.length ≤ 8 := by rw [← HE.out]; exact ev7_len L
      have hEs : ∀ a ∈ E, a.name.size ≤ 1000000 ∧ a.v.text.size ≤ 1000000 := fun a ha => by rw [← HE.out] at ha; have := ev7_small ha; omega
      have hrd4 : RdSl w4 6 (.slice na E.length nc) E.length (atts E) := (Hoa.out.mod Hm4.out (fun k hk e => by have h1 := Hfa.out k hk; have h2 := Hmra.out.size; have h3 : k = w.heap.size := e; omega)).rd
      obtain ⟨I, hI⟩ : ∃ I, goesI l l.length = I := ⟨_, rfl⟩
      have hg : idxF I ((3 * G : Nat) : Int) ≠ none := by
        obtain ⟨q, hq⟩ := idxF_mem (goesI_has (l := l) hG1)
        rw [← hI, hq]
        exact fun h => by cases h
      have h1n : idxF I 1 = none := by rw [← hI]; exact goesI_one
      rw [hI] at hix4
      have hown4 := hix4.low
      have hmat := imatch_at w4 b own C I (20 * l.length) hix4 (by omega) (ev7S es) (by have := ev7S_size (s := es); omega) (.slice na E.length nc) E hrd4 (by omega) hEs
      obtain ⟨W, hW⟩ : ∃ W, matL I (ev7S es) E = W := ⟨_, rfl⟩
      have hWl : W.length ≤ 20 := by have h1 := matL_len I (ev7S es) E; rw [hW, ← hI, goesI_len] at h1; omega
      have hm04 : Mod (fun _ => False) w w4 := (Hmr.out.trans Hm3.out (fun _ _ h => h)).upon Hm4.out (fun k hk => .inr (Nat.le_of_eq (Eq.symm hk)))
      have h3G : ((3 * G : Nat) : Int) = 3 * (G : Int) := by omega
      have howr : ∀ k, own k → k < wr.heap.size := Hix.out.low.1
      have Hrd4 := Lib.hid hrd4
      have HEs := Lib.hid hEs
      have Hmat := Lib.hid hmat
      have HW := Lib.hid hW
      have Hm04 := Lib.hid hm04
      have Hix4 := Lib.hid hix4
      have Hg := Lib.hid hg
      have H1n := Lib.hid h1n
      have HI := Lib.hid hI
      have Hown4 := Lib.hid hown4
      have Hwb := Lib.hid hwb
      have Howr := Lib.hid howr
      clear hrd4 hEs hmat hW hm04 hix4 hg h1n hI hown4 hwb howr
      go_wp2_with fail
      refine Hmat.out.mono ?_
      rintro e w5 ⟨mv, rfl, hom, hfm, hm5⟩
      rw [HW.out] at hom
      obtain ⟨ma, mc, rfl, hmc⟩ := hom.shape
      have hix5 := Hix4.out.mod hm5 (fun _ _ h => h)
      have hrem := irem_at w5 b own C I (20 * l.length) hix5 (by omega) (3 * (G : Int)) (wf_small (by omega))
      have Hom := Lib.hid hom
      have Hfm := Lib.hid hfm
      have Hm5 := Lib.hid hm5
      have Hix5 := Lib.hid hix5
      have Hrem := Lib.hid hrem
      clear hom hfm hm5 hix5 hrem
      go_wp2_with fail
      refine Hrem.out.mono ?_
      rintro e w6 (⟨h, -, -⟩ | ⟨-, rfl, hix6, hm6⟩)
      · exact absurd (h3G ▸ h) Hg.out
      have hrem2 := irem_at w6 b own C _ (20 * l.length) hix6 (by omega) (3 * (G : Int)) (wf_small (by omega))
      have Hix6 := Lib.hid hix6
      have Hm6 := Lib.hid hm6
      have Hrem2 := Lib.hid hrem2
      clear hix6 hm6 hrem2
      go_wp2_with fail
      refine Hrem2.out.mono ?_
      rintro e w7 (⟨-, rfl, hm7⟩ | ⟨h, -, -, -⟩)
      rotate_left
      · exact absurd (by rw [idxF_del, if_pos rfl]) h
      have hix7 := Hix6.out.mod hm7 (fun _ _ h => h)
      have hrem3 := irem_at w7 b own C _ (20 * l.length) hix7 (by omega) 1 (wf_small (by omega))
      have Hm7 := Lib.hid hm7
      have Hix7 := Lib.hid hix7
      have Hrem3 := Lib.hid hrem3
      clear hm7 hix7 hrem3
      go_wp2_with fail
      refine Hrem3.out.mono ?_
      rintro e w8 (⟨-, rfl, hm8⟩ | ⟨h, -, -, -⟩)
      rotate_left
      · exact absurd (by rw [idxF_del, if_neg (by omega)]; exact H1n.out) h
      have hix8 := Hix7.out.mod hm8 (fun _ _ h => h)
      have hm48 : Mod own w4 w8 := ((Hm5.out.mono (fun _ _ h => h.elim)).trans Hm6.out (fun _ _ h => h)).trans ((Hm7.out.trans hm8 (fun _ _ h => h)).mono (fun _ _ h => h.elim)) (fun _ _ h => h)
      have hm58 : Mod own w5 w8 := Hm6.out.trans ((Hm7.out.trans hm8 (fun _ _ h => h)).mono (fun _ _ h => h.elim)) (fun _ _ h => h)
      have hrd8 : RdSl w8 6 (.slice na E.length nc) E.length (atts E) := Hrd4.out.mod hm48 (fun k hk hf => by have h1 := Hfa.out k hk; have h2 := Howr.out k hf; omega)
      have hom8 := Hom.out.mod hm58 (fun k hk hf => by have h1 := Hfm.out k hk; have h2 := Hown4.out.1 k hf; omega)
      have hnw : ¬ own w.heap.size := fun h => by have := HownA.out _ h; have := Hwb.out; omega
      have p0 : w8.cell? ⟨w.heap.size, 0, none⟩ = some (.string (ev7S es)) := hm48.cell n0 hnw
      have p1 : w8.cell? ⟨w.heap.size, 1, none⟩ = some (.slice na E.length nc) := hm48.cell n1 hnw
      have hmat2 := imatch_at w8 b own C _ (20 * l.length) hix8 (by omega) (ev7S es) (by have := ev7S_size (s := es); omega) (.slice na E.length nc) E hrd8 (by omega) HEs.out
      obtain ⟨V, hV⟩ : ∃ V, (W.filter fun x => !(x == 3 * (G : Int))) = V := ⟨_, rfl⟩
      have hVl : V.length ≤ 20 := by rw [← hV]; exact Nat.le_trans (List.length_filter_le _ _) hWl
      have Hix8 := Lib.hid hix8
      have Hm48 := Lib.hid hm48
      have Hm58 := Lib.hid hm58
      have Hrd8 := Lib.hid hrd8
      have Hom8 := Lib.hid hom8
      have Hm8 := Lib.hid hm8
      have Hmat2 := Lib.hid hmat2
      have HV := Lib.hid hV
      have Hnw := Lib.hid hnw
      clear hix8 hm48 hm58 hrd8 hom8 hm8 hmat2 hV hnw n0 n1
      go_wp2_with fail
      refine Hmat2.out.mono ?_
      rintro e w9 ⟨nv, rfl, hon, hfn, hm9⟩
      rw [matL_del, HW.out, HV.out] at hon
      obtain ⟨va', vc', rfl, hvc'⟩ := hon.shape
      have hom9 := (Hom8.out.mod hm9 (fun _ _ h => h)).rd
      have hm09 : Mod (fun _ => False) w w9 := (Hm04.out.upon Hm48.out (fun k hk => .inr (by have h1 := HownA.out k hk; have h2 := Hwb.out; omega))).trans hm9 (fun _ _ h => h)
      have Hom9 := Lib.hid hom9
      have Hon := Lib.hid hon
      have Hfn := Lib.hid hfn
      have Hm9 := Lib.hid hm9
      have Hm09 := Lib.hid hm09
      clear hom9 hon hfn hm9 hm09
      go_wp2_with fail
      go_loopw [12, 91] (fun k i wr => GoCmp w9 W (3 * (G : Int)) k i wr) (fun _ i _ => W.length - (intOf i).toNat)
      case atStart => exact ⟨0, 0, rfl, rfl, Nat.zero_le _, rfl, Mod.refl _ _⟩
      case round =>
        revert wr
        intro wq hrel
        obtain ⟨j, k, rfl, rfl, hj, hk, hmq⟩ := hrel
        have hm0q := Hm09.out.trans hmq (fun _ _ h => h)
        have hk20 : k ≤ 20 := by rw [hk]; exact Nat.le_trans (List.length_filter_le _ _) (by rw [List.length_take]; omega)
        by_cases hlt : j < W.length
        · have hlt' : (j : Int) < W.length := by omega
          obtain ⟨id, hidj⟩ : ∃ id, W[j]? = some id := ⟨_, List.getElem?_eq_getElem hlt⟩
          obtain ⟨sg, soff, rfl, cid⟩ := rd_int (Hom9.out.mod hmq (fun _ _ h => h)) hidj
          by_cases he : id = 3 * (G : Int)
          · subst he
            have hnx : k = ((W.take (j + 1)).filter fun x => !(x == 3 * (G : Int))).length := by
              rw [List.take_add_one, hidj, List.filter_append, List.length_append, hk]
              simp
            have Hidj := Lib.hid hidj
            have Hk := Lib.hid hk
            have Hmq := Lib.hid hmq
            have Hm0q := Lib.hid hm0q
            have Hnx := Lib.hid hnx
            clear hidj hk hmq hm0q hnx
            go_wp2_with fail
            go_roundw
            case rel => exact ⟨j + 1, k, by go_num, rfl, hlt, Hnx.out, Hmq.out⟩
            case measure => simp [intOf]; omega
          · have hp : (!(id == 3 * (G : Int))) = true := by simp [he]
            have hvk : V[k]? = some id := by
              rw [← HV.out, hk]
              exact filter_at hidj hp
            have hkV := (List.getElem?_eq_some_iff.1 hvk).1
            have hkV' : (k : Int) < V.length := by omega
            obtain ⟨vg, voff, rfl, cvd⟩ := rd_int (Hon.out.rd.mod hmq (fun _ _ h => h)) hvk
            have hnx : k + 1 = ((W.take (j + 1)).filter fun x => !(x == 3 * (G : Int))).length := by
              rw [List.take_add_one, hidj, List.filter_append, List.length_append, ← hk]
              simp [he]
            have Hidj := Lib.hid hidj
            have Hk := Lib.hid hk
            have Hmq := Lib.hid hmq
            have Hm0q := Lib.hid hm0q
            have Hnx := Lib.hid hnx
            have Hp := Lib.hid hp
            have Hvk := Lib.hid hvk
            clear hidj hk hmq hm0q hnx hp hvk
            go_wp2_with fail
            go_roundw
            case rel => exact ⟨j + 1, k + 1, by go_num, by go_num, hlt, Hnx.out, Hmq.out⟩
            case measure => simp [intOf]; omega
        · obtain rfl : j = W.length := by omega
          rw [List.take_length, HV.out] at hk
          subst hk
          have Hmq := Lib.hid hmq
          have Hm0q := Lib.hid hm0q
          clear hmq hm0q
          go_wp2_with fail
          go_ret
          exact ⟨rfl, Hm0q.out⟩
end Go.Proofs.YtloplmaekonenaaGreatDoor
