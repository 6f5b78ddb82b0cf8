/-
  gazettelaw13.IndexOrders.
-/
import Derived.Test.YtloplmaekonenaaGreatDoorZa43
import Derived.Test.YtloplmaekonenaaGreatDoorZa45
namespace Go.Proofs.YtloplmaekonenaaGreatDoor
set_option maxRecDepth 20000
open Go.RowKit

/-- The filter of that place. -/
def filN (l : List Fr) (k : Nat) : Fil := match l[k]? with | some x => (x.sc, normC x.cs) | none => (⟨#[]⟩, [])
/-- What an index holds when the filters of the places g 0, g 1, .. stand in it. -/
def ordM (l : List Fr) (g : Nat → Nat) (j : Nat) : List (Int × Fil) := (List.range j).map fun i => (((g i : Nat) : Int), filN l (g i))
theorem ordM_snoc (l : List Fr) (g : Nat → Nat) (j : Nat) : ordM l g (j + 1) = ordM l g j ++ [(((g j : Nat) : Int), filN l (g j))] := by
  unfold ordM
  rw [List.range_succ, List.map_append]
  rfl
theorem ordM_len (l : List Fr) (g : Nat → Nat) (j : Nat) : (ordM l g j).length = j := by unfold ordM; rw [List.length_map, List.length_range]
theorem ordM_none {l : List Fr} {g : Nat → Nat} {j : Nat} (h : ∀ i, i < j → g i ≠ g j) : idxF (ordM l g j) ((g j : Nat) : Int) = none := by
  unfold idxF
  rw [Option.map_eq_none_iff, List.find?_eq_none]
  intro p hp
  unfold ordM at hp
  obtain ⟨i, h1, rfl⟩ := List.mem_map.1 hp
  have := h i (List.mem_range.1 h1)
  simp only [beq_iff_eq]
  omega
/-- An entry that came and went. -/
theorem idxD_last {I : List (Int × Fil)} {id : Int} {q : Fil} (h : idxF I id = none) : idxD (I ++ [(id, q)]) id = I := by
  unfold idxD
  rw [List.filter_append]
  have h1 := idxF_none h
  have h2 : I.filter (fun p => !(p.1 == id)) = I := List.filter_eq_self.2 fun p hp => by
    have : p.1 ≠ id := fun e => h1 (e ▸ List.mem_map_of_mem (f := Prod.fst) hp)
    simp [this]
  rw [h2]
  simp
theorem turn_inj {n t i j : Nat} (ht : t < n) (hi : i < j) (hj : j < n) : (i + t) % n ≠ (j + t) % n := by
  intro e
  have h1 : ∀ k, k < n → (k + t) % n = if k + t < n then k + t else k + t - n := fun k hk => by
    split
    · exact Nat.mod_eq_of_lt ‹_›
    · rw [Nat.mod_eq_sub_mod (by omega), Nat.mod_eq_of_lt (by omega)]
  rw [h1 i (by omega), h1 j hj] at e
  split at e <;> split at e <;> omega
/-- Both orders find the same. -/
theorem ords_same {l : List Fr} {n t : Nat} (ht : t < n) (es : ByteArray) (L : List Att) : matL (ordM l (fun i => (i + t) % n) n) es L = matL (ordM l (fun i => i) n) es L := by
  obtain ⟨r, rfl⟩ : ∃ r, n = t + r := ⟨n - t, by omega⟩
  have hp : (ordM l (fun i => i) (t + r)).Perm (ordM l (fun i => (i + t) % (t + r)) (t + r)) := by
    have h := ((turn_perm r t).symm).map fun k => (((k : Nat) : Int), filN l k)
    rw [List.map_map] at h
    exact h
  refine (matL_perm ?_ hp es L).symm
  unfold ordM
  rw [List.map_map]
  exact List.pairwise_map.2 ((List.nodup_range (n := t + r)).imp fun h e => h (Int.ofNat.inj e))
/-- Two indices in one memory. -/
structure Two (w : World) (bx bz : Nat) (ox Cx oz Cz : Nat → Prop) (I J : List (Int × Fil)) (T U : Nat) : Prop where
  x : Idx w bx ox Cx I T
  z : Idx w bz oz Cz J U
  d1 : ∀ k, ox k → ¬ oz k ∧ ¬ Cz k
  d2 : ∀ k, oz k → ¬ Cx k
theorem Two.symm {w : World} {bx bz : Nat} {ox Cx oz Cz : Nat → Prop} {I J : List (Int × Fil)} {T U : Nat} (h : Two w bx bz ox Cx oz Cz I J T U) : Two w bz bx oz Cz ox Cx J I U T :=
  ⟨h.z, h.x, fun k hk => ⟨fun h2 => (h.d1 k h2).1 hk, h.d2 k hk⟩, fun k hk => (h.d1 k hk).2⟩
theorem Two.step {w w' : World} {bx bz : Nat} {ox Cx oz Cz ox' Cx' : Nat → Prop} {I J I' : List (Int × Fil)} {T U T' : Nat} (h : Two w bx bz ox Cx oz Cz I J T U) (hx : Idx w' bx ox' Cx' I' T') (h1 : ∀ k, ox' k → ox k ∨ w.heap.size ≤ k)
    (h2 : ∀ k, Cx' k → Cx k ∨ w.heap.size ≤ k) (hm : Mod ox w w') : Two w' bx bz ox' Cx' oz Cz I' J T' U := by
  refine ⟨hx, h.z.mod2 hm (fun k _ hk => h.d1 k hk), fun k hk => ?_, fun k hk hc => ?_⟩
  · rcases h1 k hk with h3 | h3
    · exact h.d1 k h3
    · exact ⟨fun h4 => by have := h.z.low.1 k h4; omega, fun h4 => by have := h.z.low.2 k h4; omega⟩
  · rcases h2 k hc with h3 | h3
    · exact h.d2 k hk h3
    · have := h.z.low.1 k hk
      omega
theorem Two.mod {w w' : World} {bx bz : Nat} {ox Cx oz Cz : Nat → Prop} {I J : List (Int × Fil)} {T U : Nat} (h : Two w bx bz ox Cx oz Cz I J T U) (hm : Mod (fun _ => False) w w') : Two w' bx bz ox Cx oz Cz I J T U :=
  ⟨h.x.mod hm (fun _ _ h => h), h.z.mod hm (fun _ _ h => h), h.d1, h.d2⟩
/-- A round of the loop that asks. -/
def OAsk (w : World) (l : List Fr) (i : Value) (wr : World) : Prop := ∃ j : Nat, i = .int .i64 j ∧ j ≤ l.length ∧ (∀ f ∈ l.take j, filRight f.sc f.cs = true) ∧ Mod (fun _ => False) w wr
/-- A round of the loop that adds. -/
def OAdd (w : World) (bx bz t : Nat) (l : List Fr) (i : Value) (wr : World) : Prop :=
  ∃ (j : Nat) (ox Cx oz Cz : Nat → Prop), i = .int .i64 j ∧ j ≤ l.length ∧ Two wr bx bz ox Cx oz Cz (ordM l (fun i => i) j) (ordM l (fun i => (i + t) % l.length) j) (20 * j) (40 * j) ∧
    (∀ k, ox k → w.heap.size ≤ k) ∧ (∀ k, oz k → w.heap.size ≤ k) ∧ Mod (fun _ => False) w wr

set_option maxHeartbeats 8000000 in
theorem ords_walk (w : World) (hl : LaidAt w) (hn : 16 ≤ w.heap.size) (v : Value) (l : List Fr) (hv : FrsAt w v l) (turn : Int) (es : ByteArray) (ev : Value) (L : List Att) (hes : es.size ≤ 9223372036854775807) (hev : RdSl w 6 ev L.length (atts L)) (hLn : ∀ x ∈ newL L, x.name.size ≤ 9223372036854775807) :
    Calls Tryz.prog 4 #[v, .int .i64 turn, .agg #[.string es, ev]] w fun e w' => e = .returned (.bool true) ∧ Mod (fun _ => False) w w' := by
  obtain ⟨va, vc, rfl, hvc⟩ : ∃ a c, v = .slice a l.length c ∧ l.length ≤ c := by obtain ⟨-, a, c, h, h2, -⟩ := hv.rd; exact ⟨a, c, h, h2⟩
  obtain ⟨ea, ec, rfl, hec⟩ : ∃ a c, ev = .slice a L.length c ∧ L.length ≤ c := by obtain ⟨-, a, c, h, h2, -⟩ := hev; exact ⟨a, c, h, h2⟩
  obtain ⟨wa, hwa⟩ : ∃ wa : World, w.alloc (.cells #[.string es, .slice ea L.length ec] 32) = wa := ⟨_, rfl⟩
  have hmwa : Mod (fun _ => False) w wa := hwa ▸ (Mod.refl (fun _ => False) w).alloc _
  have hgwa := heap_alloc_new w (.cells #[.string es, .slice ea L.length ec] 32)
  rw [hwa] at hgwa
  have hzwa : wa.heap.size = w.heap.size + 1 := by rw [← hwa]; simp
  have hl0 : Laid w w := ⟨hl, hn, ⟨rfl, rfl, rfl, Nat.le_refl _, fun _ _ => rfl⟩⟩
  have hla := hl0.mod0 hmwa
  have hfit := fit13_at w wa hla
  have c0 : wa.cell? ⟨w.heap.size, 0, none⟩ = some (.string es) := cell_of hgwa rfl
  have c1 : wa.cell? ⟨w.heap.size, 1, none⟩ = some (.slice ea L.length ec) := cell_of hgwa rfl
  have Hl := Lib.hid hl
  have Hv := Lib.hid hv
  have Hev := Lib.hid hev
  have Hwa := Lib.hid hwa
  have Hmwa := Lib.hid hmwa
  have Hgwa := Lib.hid hgwa
  have Hl0 := Lib.hid hl0
  have Hla := Lib.hid hla
  have Hfit := Lib.hid hfit
  clear hl hv hev hwa hmwa hgwa hl0 hla hfit hzwa
  go_enter Tryz.func4, Tryz.ntmps4
  go_wp2_with (first | (rw [show w.alloc _ = wa from Hwa.out]) | fail)
  refine Hfit.out.mono ?_
  rintro e w1 ⟨rfl, hm1⟩
  have hmw1 := Hmwa.out.trans hm1 (fun _ _ h => h)
  have d0 : w1.cell? ⟨w.heap.size, 0, none⟩ = some (.string es) := hm1.cell c0 (fun h => h)
  have d1 : w1.cell? ⟨w.heap.size, 1, none⟩ = some (.slice ea L.length ec) := hm1.cell c1 (fun h => h)
  have hg1 := hm1.heap Hgwa.out (fun h => h)
  by_cases z1 : l.length = 0
  · have z1' : ((l.length : Nat) : Int) = 0 := by omega
    have Hm1 := Lib.hid hm1
    have Hmw1 := Lib.hid hmw1
    have Hg1 := Lib.hid hg1
    clear hm1 hmw1 hg1 c0 c1
    go_wp2_with fail
    go_ret
    exact ⟨rfl, Hmw1.out⟩
  by_cases z2 : 20 < l.length
  · have z2' : (20 : Int) < ((l.length : Nat) : Int) := by omega
    have z1' : ¬ ((l.length : Nat) : Int) = 0 := by omega
    have Hm1 := Lib.hid hm1
    have Hmw1 := Lib.hid hmw1
    have Hg1 := Lib.hid hg1
    clear hm1 hmw1 hg1 c0 c1
    go_wp2_with fail
    go_ret
    exact ⟨rfl, Hmw1.out⟩
  have z1' : ¬ ((l.length : Nat) : Int) = 0 := by omega
  have z2' : ((l.length : Nat) : Int) ≤ 20 := by omega
  by_cases z3 : 60 < es.size
  · have z3' : (60 : Int) < ((es.size : Nat) : Int) := by omega
    have Hm1 := Lib.hid hm1
    have Hmw1 := Lib.hid hmw1
    have Hg1 := Lib.hid hg1
    clear hm1 hmw1 hg1 c0 c1
    go_wp2_with fail
    go_ret
    exact ⟨rfl, Hmw1.out⟩
  have z3' : ((es.size : Nat) : Int) ≤ 60 := by omega
  by_cases z4 : 20 < L.length
  · have z4' : (20 : Int) < ((L.length : Nat) : Int) := by omega
    have Hm1 := Lib.hid hm1
    have Hmw1 := Lib.hid hmw1
    have Hg1 := Lib.hid hg1
    clear hm1 hmw1 hg1 c0 c1
    go_wp2_with fail
    go_ret
    exact ⟨rfl, Hmw1.out⟩
  have z4' : ((L.length : Nat) : Int) ≤ 20 := by omega
  have zd : decide ((20 : Int) < ((L.length : Nat) : Int)) = false := decide_eq_false (by omega)
  have hg2 := hg1
  have hrel0 : OAsk wa l (.int .i64 ((0 : Nat) : Int)) w1 := ⟨0, rfl, Nat.zero_le _, fun f hf => by simp at hf, hm1⟩
  have Hm1 := Lib.hid hm1
  have Hmw1 := Lib.hid hmw1
  have Hg1 := Lib.hid hg1
  have Hg2 := Lib.hid hg2
  have Hrel0 := Lib.hid hrel0
  clear hm1 hmw1 hg1 hg2 hrel0 c0 c1
  go_wp2_with fail
  all_goals first | (exfalso; omega) | skip
  go_loopw [40] (fun i wr => OAsk wa l i wr) (fun i _ => l.length - (intOf i).toNat)
  case atStart => exact Hrel0.out
  case round =>
    obtain ⟨j, rfl, hj, hri, hmra⟩ := hrel
    have hmr := Hmwa.out.trans hmra (fun _ _ h => h)
    by_cases hlt : j < l.length
    · have hlt' : (j : Int) < l.length := by omega
      obtain ⟨x, hxj⟩ : ∃ x, l[j]? = some x := ⟨_, List.getElem?_eq_getElem hlt⟩
      have hxm := List.mem_of_getElem? hxj
      obtain ⟨g, off, rfl, hf0⟩ : ∃ g off, va = some ⟨g, off, none⟩ ∧ CellsAt w g (off + j * 2) x.cells := rd_el (f := Fr.cells) (fun _ => rfl) Hv.out.rd hxj
      have hf := hf0.mod hmr (fun h => h)
      obtain ⟨wz, hwz⟩ : ∃ wz : World, wr.alloc (.cells x.cells.toArray 29) = wz := ⟨_, rfl⟩
      have hmwz : Mod (fun _ => False) wr wz := hwz ▸ (Mod.refl (fun _ => False) wr).alloc _
      have hgwz := heap_alloc_new wr (.cells x.cells.toArray 29)
      rw [hwz] at hgwz
      have hzwz : wz.heap.size = wr.heap.size + 1 := by rw [← hwz]; simp
      have hmwz2 := hmr.trans hmwz (fun _ _ h => h)
      have hrx := (Hv.out.cs x hxm).mod hmwz2 (fun _ _ h => h)
      have hlt7 := light07_at wz x.sc (.slice x.a x.cs.length x.c) x.cs hrx (Hv.out.sc x hxm).2
      have haz := (CellsAt.row hgwz)
      have k0 : wz.cell? ⟨wr.heap.size, 0, none⟩ = some (.string x.sc) := cell_of hgwz rfl
      have k1 : wz.cell? ⟨wr.heap.size, 1, none⟩ = some (.slice x.a x.cs.length x.c) := cell_of hgwz rfl
      have Hxj := Lib.hid hxj
      have Hxm := Lib.hid hxm
      have Hf0 := Lib.hid hf0
      have Hf := Lib.hid hf
      have Hwz := Lib.hid hwz
      have Hmwz := Lib.hid hmwz
      have Hgwz := Lib.hid hgwz
      have Hmwz2 := Lib.hid hmwz2
      have Hrx := Lib.hid hrx
      have Hlt7 := Lib.hid hlt7
      have Haz := Lib.hid haz
      have Hri := Lib.hid hri
      have Hmr := Lib.hid hmr
      have Hmra := Lib.hid hmra
      clear hxj hxm hf0 hf hwz hmwz hgwz hmwz2 hrx hlt7 haz hri hmr hmra hzwz
      go_wp2_with (first | ((with_reducible refine wpList_load_lit 29 (.tmp 42) ?_); refine ⟨g, off + j * 2, rfl, x.cells, Hf.out, by kernel_rfl, by kernel_rfl, ?_⟩) | ((with_reducible refine wpList_store_lit 29 (.tmp 8) (.tmp 43) ?_); refine ⟨rfl, x.cells, rfl, rfl, by kernel_rfl, rfl, ?_⟩; rw [Hwz.out]) | fail)
      refine Hlt7.out.mono ?_
      rintro e w3 ⟨t, rfl, hm3⟩
      have hm03 := Hmwz2.out.trans hm3 (fun _ _ h => h)
      cases t with
      | false =>
        have Hm3 := Lib.hid hm3
        have Hm03 := Lib.hid hm03
        clear hm3 hm03
        go_wp2_with fail
        go_ret
        exact ⟨rfl, Hm03.out⟩
      | true =>
        have k2 : w3.cell? ⟨wr.heap.size, 0, none⟩ = some (.string x.sc) := hm3.cell k0 (fun h => h)
        have k3 : w3.cell? ⟨wr.heap.size, 1, none⟩ = some (.slice x.a x.cs.length x.c) := hm3.cell k1 (fun h => h)
        have hfr := filter_right w3 x.sc (.slice x.a x.cs.length x.c) x.cs (Hrx.out.mod hm3 (fun _ _ h => h)) (Hv.out.sc x Hxm.out).2 (Hv.out.sc x Hxm.out).1 (fun c hc => (Hv.out.nm x Hxm.out c hc).1)
        obtain ⟨u, hu⟩ : ∃ u, filRight x.sc x.cs = u := ⟨_, rfl⟩
        rw [hu] at hfr
        have Hm3 := Lib.hid hm3
        have Hm03 := Lib.hid hm03
        have Hfr := Lib.hid hfr
        have Hu := Lib.hid hu
        clear hm3 hm03 hfr hu k0 k1
        go_wp2_with fail
        refine Hfr.out.mono ?_
        rintro e w4 ⟨rfl, hm4⟩
        have hm04 := Hm03.out.trans hm4 (fun _ _ h => h)
        cases u with
        | false =>
          have Hm4 := Lib.hid hm4
          have Hm04 := Lib.hid hm04
          clear hm4 hm04
          go_wp2_with fail
          go_ret
          exact ⟨rfl, Hm04.out⟩
        | true =>
          have hmA : Mod (fun _ => False) wa w4 := Hmra.out.trans ((Hmwz.out.trans Hm3.out (fun _ _ h => h)).trans hm4 (fun _ _ h => h)) (fun _ _ h => h)
          have Hm4 := Lib.hid hm4
          have Hm04 := Lib.hid hm04
          have HmA := Lib.hid hmA
          clear hm4 hm04 hmA k2 k3
          go_wp2_with fail
          go_roundw
          case rel =>
            refine ⟨j + 1, by go_num, hlt, fun f hf => ?_, HmA.out⟩
            rw [List.take_add_one, Hxj.out] at hf
            rcases List.mem_append.1 hf with hf | hf
            · exact Hri.out f hf
            · obtain rfl : f = x := by simpa using hf
              exact Hu.out
          case measure => simp [intOf]; omega
    · obtain rfl : j = l.length := by omega
      rw [List.take_length] at hri
      have hg3 := hmra.heap Hgwa.out (fun h => h)
      have k0 : wr.cell? ⟨w.heap.size, 0, none⟩ = some (.string es) := cell_of hg3 rfl
      have k1 : wr.cell? ⟨w.heap.size, 1, none⟩ = some (.slice ea L.length ec) := cell_of hg3 rfl
      have hevt := ev7_at wr es (.slice ea L.length ec) L (Hev.out.mod hmr (fun _ _ h => h)) (by omega) hes hLn
      have Hri := Lib.hid hri
      have Hg3 := Lib.hid hg3
      have Hmra := Lib.hid hmra
      have Hmr := Lib.hid hmr
      have Hevt := Lib.hid hevt
      clear hri hg3 hmra hmr hevt
      go_wp2_with fail
      refine Hevt.out.mono ?_
      rintro e w3 ⟨av, rfl, hoa, hfa, hm3⟩
      obtain ⟨na, nc, rfl, hnc⟩ := hoa.shape
      have hg4 := hm3.heap Hg3.out (fun h => h)
      obtain ⟨E, hE⟩ : ∃ E, ev7L L = E := ⟨_, rfl⟩
      rw [hE] at hoa hfa hnc ⊢
      obtain ⟨G, hG1, hG2⟩ : ∃ G : Nat, G < l.length ∧ (bits BinOp.and IntKind.i64 turn 65535).tmod (l.length : Int) = G := by
        obtain ⟨t, ht, -⟩ := andp16 turn
        exact ⟨t % l.length, Nat.mod_lt _ (by omega), by rw [ht]; rfl⟩
      have hG3 : (G : Int) < 20 := by omega
      have Hoa := Lib.hid hoa
      have Hfa := Lib.hid hfa
      have Hm3 := Lib.hid hm3
      have Hg4 := Lib.hid hg4
      have HE := Lib.hid hE
      clear hoa hfa hm3 hg4 hE k0 k1
      go_wp2_with (first | ((with_reducible refine wpList_store_row_lit 32 (.tmp 5) (.tmp 57) ?_); refine ⟨w.heap.size, rfl, _, _, Hg4.out, [.string (ev7S es), .slice na E.length nc], rfl, rfl, by kernel_rfl, rfl, ?_⟩; intro w4 h4 hm4; have H4 := Lib.hid h4; have Hm4 := Lib.hid hm4; clear h4 hm4) | fail)
      have hwb : w.heap.size < wa.heap.size := (Array.getElem?_eq_some_iff.1 Hgwa.out).1
      have hEl : E.length ≤ 8 := by rw [← HE.out]; exact ev7_len L
      have hEs : ∀ a ∈ E, a.name.size ≤ 1000000 ∧ a.v.text.size ≤ 1000000 := fun a ha => by rw [← HE.out] at ha; have := ev7_small ha; omega
      have hrd4 : RdSl w4 6 (.slice na E.length nc) E.length (atts E) := (Hoa.out.mod Hm4.out (fun k hk e => by have h1 := Hfa.out k hk; have h2 := Hmra.out.size; have h3 : k = w.heap.size := e; omega)).rd
      have hm04 : Mod (fun _ => False) w w4 := (Hmr.out.trans Hm3.out (fun _ _ h => h)).upon Hm4.out (fun k hk => .inr (Nat.le_of_eq (Eq.symm hk)))
      have hn1 := inew_at w4
      have Hwb := Lib.hid hwb
      have HEs := Lib.hid hEs
      have Hrd4 := Lib.hid hrd4
      have Hm04 := Lib.hid hm04
      have Hn1 := Lib.hid hn1
      clear hwb hEs hrd4 hm04 hn1
      go_wp2_with fail
      refine Hn1.out.mono ?_
      rintro e w5 ⟨bx, ox, rfl, hx5, ho5, hm5⟩
      have hn2 := inew_at w5
      have Hx5 := Lib.hid hx5
      have Ho5 := Lib.hid ho5
      have Hm5 := Lib.hid hm5
      have Hn2 := Lib.hid hn2
      clear hx5 ho5 hm5 hn2
      go_wp2_with fail
      refine Hn2.out.mono ?_
      rintro e w6 ⟨bz, oz, rfl, hz6, ho6, hm6⟩
      have hm46 : Mod (fun _ => False) w4 w6 := Hm5.out.trans hm6 (fun _ _ h => h)
      have htwo : Two w6 bx bz ox (fun _ => False) oz (fun _ => False) [] [] 0 0 := ⟨Hx5.out.mod hm6 (fun _ _ h => h), hz6, fun k hk => ⟨fun h2 => by have h3 := (Ho5.out k hk).2; have h4 := (ho6 k h2).1; omega, fun h => h⟩, fun _ _ h => h⟩
      have hrel1 : OAdd w4 bx bz G l (.int .i64 ((0 : Nat) : Int)) w6 := ⟨0, ox, _, oz, _, rfl, Nat.zero_le _, htwo, fun k hk => (Ho5.out k hk).1, fun k hk => Nat.le_trans Hm5.out.size (ho6 k hk).1, hm46⟩
      have Hz6 := Lib.hid hz6
      have Ho6 := Lib.hid ho6
      have Hm6 := Lib.hid hm6
      have Hm46 := Lib.hid hm46
      have Htwo := Lib.hid htwo
      have Hrel1 := Lib.hid hrel1
      clear hz6 ho6 hm6 hm46 htwo hrel1
      go_wp2_with fail
      go_loopw [67] (fun i wr => OAdd w4 bx bz G l i wr) (fun i _ => l.length - (intOf i).toNat)
      case atStart => exact Hrel1.out
      case round =>
        revert wr
        intro wq hrel
        obtain ⟨j, ox, Cx, oz, Cz, rfl, hj, htw, hox, hoz, hmq⟩ := hrel
        have hm0q := Hm04.out.trans hmq (fun _ _ h => h)
        by_cases hlt : j < l.length
        · have hlt' : (j : Int) < l.length := by omega
          obtain ⟨x, hxj⟩ : ∃ x, l[j]? = some x := ⟨_, List.getElem?_eq_getElem hlt⟩
          obtain ⟨K, hK⟩ : ∃ K, (j + G) % l.length = K := ⟨_, rfl⟩
          have hKl : K < l.length := by rw [← hK]; exact Nat.mod_lt _ (by omega)
          have hKl' : (K : Int) < l.length := by omega
          have hKi : ((j : Int) + (G : Int)).tmod (l.length : Int) = (K : Int) := by
            rw [← hK, Int.tmod_eq_emod_of_nonneg (by omega)]
            rfl
          obtain ⟨y, hyj⟩ : ∃ y, l[K]? = some y := ⟨_, List.getElem?_eq_getElem hKl⟩
          have hxm := List.mem_of_getElem? hxj
          have hym := List.mem_of_getElem? hyj
          have hbx := fil_bounds (Hri.out x hxm)
          have hby := fil_bounds (Hri.out y hym)
          have hfx : filN l j = (x.sc, normC x.cs) := by unfold filN; rw [hxj]
          have hfy : filN l K = (y.sc, normC y.cs) := by unfold filN; rw [hyj]
          obtain ⟨g, off, rfl, hf0⟩ : ∃ g off, va = some ⟨g, off, none⟩ ∧ CellsAt w g (off + j * 2) x.cells := rd_el (f := Fr.cells) (fun _ => rfl) Hv.out.rd hxj
          have hf0y : CellsAt w g (off + K * 2) y.cells := by
            obtain ⟨g', off', e, h⟩ := rd_el (f := Fr.cells) (fun _ => rfl) Hv.out.rd hyj
            cases e
            exact h
          have hfq := hf0.mod hm0q (fun h => h)
          have hown : ∀ k, ox k → w.heap.size ≤ k := fun k hk => Nat.le_trans Hm04.out.size (hox k hk)
          have hownz : ∀ k, oz k → w.heap.size ≤ k := fun k hk => Nat.le_trans Hm04.out.size (hoz k hk)
          have hnx : idxF (ordM l (fun i => i) j) (j : Int) = none := ordM_none (g := fun i => i) (fun i hi => by omega)
          have hnz : idxF (ordM l (fun i => (i + G) % l.length) j) (K : Int) = none := by
            have h := ordM_none (l := l) (g := fun i => (i + G) % l.length) (j := j) (fun i hi => turn_inj hG1 hi hlt)
            rw [hK] at h
            exact h
          have hcx : ∀ c ∈ x.cs, c.fits := fun c hc => ⟨⟨(Hv.out.nm x hxm c hc).2.1, (Hv.out.nm x hxm c hc).2.2, by have := (hbx.2.2 c hc).2.2.2; omega⟩, by have := (hbx.2.2 c hc).1; omega⟩
          have hcy : ∀ c ∈ y.cs, c.fits := fun c hc => ⟨⟨(Hv.out.nm y hym c hc).2.1, (Hv.out.nm y hym c hc).2.2, by have := (hby.2.2 c hc).2.2.2; omega⟩, by have := (hby.2.2 c hc).1; omega⟩
          have hadd := iadd_at w wq (Hl0.out.mod0 hm0q) bx ox Cx _ (20 * j) htw.x (by omega) hown (j : Int) (wf_small (by omega)) x.sc (.slice x.a x.cs.length x.c) x.cs ((Hv.out.cs x hxm).mod hm0q (fun _ _ h => h)) (by omega) hcx (by omega)
          have Hxj := Lib.hid hxj
          have Hyj := Lib.hid hyj
          have HK := Lib.hid hK
          have HKi := Lib.hid hKi
          have Hxm := Lib.hid hxm
          have Hym := Lib.hid hym
          have Hbx := Lib.hid hbx
          have Hby := Lib.hid hby
          have Hfx := Lib.hid hfx
          have Hfy := Lib.hid hfy
          have Hf0 := Lib.hid hf0
          have Hf0y := Lib.hid hf0y
          have Hfq := Lib.hid hfq
          have Hown := Lib.hid hown
          have Hownz := Lib.hid hownz
          have Hnx := Lib.hid hnx
          have Hnz := Lib.hid hnz
          have Hcx := Lib.hid hcx
          have Hcy := Lib.hid hcy
          have Hadd := Lib.hid hadd
          have Htw := Lib.hid htw
          have Hox := Lib.hid hox
          have Hoz := Lib.hid hoz
          have Hmq := Lib.hid hmq
          have Hm0q := Lib.hid hm0q
          clear hxj hyj hK hKi hxm hym hbx hby hfx hfy hf0 hf0y hfq hown hownz hnx hnz hcx hcy hadd htw hox hoz hmq hm0q
          go_wp2_with (first | ((with_reducible refine wpList_load_lit 29 (.tmp 74) ?_); refine ⟨g, off + j * 2, rfl, x.cells, Hfq.out, by kernel_rfl, by kernel_rfl, ?_⟩) | fail)
          refine Hadd.out.mono ?_
          rintro e wA (⟨h, -⟩ | ⟨-, rfl, ox', Cx', hxA, h1, h2, h3, hmA⟩)
          · exact absurd Hnx.out h
          have htA := Htw.out.step hxA h2 h3 hmA
          have hox' : ∀ k, ox' k → w4.heap.size ≤ k := fun k hk => (h2 k hk).elim (Hox.out k) (fun h => Nat.le_trans Hmq.out.size h)
          have hm4A : Mod (fun _ => False) w4 wA := Hmq.out.upon hmA (fun k hk => .inr (Hox.out k hk))
          have hm0A := Hm04.out.trans hm4A (fun _ _ h => h)
          have hfA := Hf0y.out.mod hm0A (fun h => h)
          have hadd2 := iadd_at w wA (Hl0.out.mod0 hm0A) bz oz Cz _ (40 * j) htA.z (by omega) Hownz.out (K : Int) (wf_small (by omega)) y.sc (.slice y.a y.cs.length y.c) y.cs ((Hv.out.cs y Hym.out).mod hm0A (fun _ _ h => h)) (by have := Hby.out; omega) Hcy.out (by have := Hby.out; omega)
          have hKi' := HKi.out
          have HtA := Lib.hid htA
          have Hox' := Lib.hid hox'
          have Hm4A := Lib.hid hm4A
          have Hm0A := Lib.hid hm0A
          have HfA := Lib.hid hfA
          have Hadd2 := Lib.hid hadd2
          clear htA hox' hm4A hm0A hfA hadd2 hxA h1 h2 h3 hmA
          go_wp2_with (first | ((with_reducible refine wpList_load_lit 29 (.tmp 87) ?_); refine ⟨g, off + K * 2, rfl, y.cells, HfA.out, by kernel_rfl, by kernel_rfl, ?_⟩) | fail)
          refine Hadd2.out.mono ?_
          rintro e wB (⟨h, -⟩ | ⟨-, rfl, oz', Cz', hzB, h1, h2, h3, hmB⟩)
          · exact absurd Hnz.out h
          have htB := HtA.out.symm.step hzB h2 h3 hmB
          have hoz' : ∀ k, oz' k → w4.heap.size ≤ k := fun k hk => (h2 k hk).elim (Hoz.out k) (fun h => Nat.le_trans Hm4A.out.size h)
          have hm4B : Mod (fun _ => False) w4 wB := Hm4A.out.upon hmB (fun k hk => .inr (Hoz.out k hk))
          have hK2 : idxF (ordM l (fun i => (i + G) % l.length) j ++ [((K : Int), (y.sc, normC y.cs))]) (K : Int) ≠ none := by
            rw [idxF_new Hnz.out, if_pos rfl]
            exact fun h => by cases h
          have hrem := irem_at wB bz oz' Cz' _ (40 * j + 20) htB.x (by omega) (K : Int) (wf_small (by omega))
          have HtB := Lib.hid htB
          have Hoz' := Lib.hid hoz'
          have Hm4B := Lib.hid hm4B
          have HK2 := Lib.hid hK2
          have Hrem := Lib.hid hrem
          clear htB hoz' hm4B hK2 hrem hzB h1 h2 h3 hmB
          go_wp2_with fail
          refine Hrem.out.mono ?_
          rintro e wC (⟨h, -, -⟩ | ⟨-, rfl, hzC, hmC⟩)
          · exact absurd h HK2.out
          rw [idxD_last Hnz.out] at hzC
          have htC := HtB.out.step hzC (fun k h => .inl h) (fun k h => .inl h) hmC
          have hm4C : Mod (fun _ => False) w4 wC := Hm4B.out.upon hmC (fun k hk => .inr (Hoz'.out k hk))
          have hm0C := Hm04.out.trans hm4C (fun _ _ h => h)
          have hfC := Hf0y.out.mod hm0C (fun h => h)
          have hadd3 := iadd_at w wC (Hl0.out.mod0 hm0C) bz oz' Cz' _ (40 * j + 20) htC.x (by omega) (fun k hk => Nat.le_trans Hm04.out.size (Hoz'.out k hk)) (K : Int) (wf_small (by omega)) y.sc (.slice y.a y.cs.length y.c) y.cs ((Hv.out.cs y Hym.out).mod hm0C (fun _ _ h => h)) (by have := Hby.out; omega) Hcy.out (by have := Hby.out; omega)
          have HtC := Lib.hid htC
          have Hm4C := Lib.hid hm4C
          have Hm0C := Lib.hid hm0C
          have HfC := Lib.hid hfC
          have Hadd3 := Lib.hid hadd3
          clear htC hm4C hm0C hfC hadd3 hzC hmC
          go_wp2_with (first | ((with_reducible refine wpList_load_lit 29 (.tmp 97) ?_); refine ⟨g, off + K * 2, rfl, y.cells, HfC.out, by kernel_rfl, by kernel_rfl, ?_⟩) | fail)
          refine Hadd3.out.mono ?_
          rintro e wD (⟨h, -⟩ | ⟨-, rfl, oz2, Cz2, hzD, h1, h2, h3, hmD⟩)
          · exact absurd Hnz.out h
          have htD := (HtC.out.step hzD h2 h3 hmD).symm
          have hoz2 : ∀ k, oz2 k → w4.heap.size ≤ k := fun k hk => (h2 k hk).elim (Hoz'.out k) (fun h => Nat.le_trans Hm4C.out.size h)
          have hm4D : Mod (fun _ => False) w4 wD := Hm4C.out.upon hmD (fun k hk => .inr (Hoz'.out k hk))
          have HtD := Lib.hid htD
          have Hoz2 := Lib.hid hoz2
          have Hm4D := Lib.hid hm4D
          clear htD hoz2 hm4D hzD h1 h2 h3 hmD
          go_wp2_with fail
          go_roundw
          case rel =>
            refine ⟨j + 1, ox', Cx', oz2, Cz2, by go_num, hlt, ?_, Hox'.out, Hoz2.out, Hm4D.out⟩
            rw [ordM_snoc, ordM_snoc, HK.out, Hfx.out, Hfy.out, show 20 * (j + 1) = 20 * j + 20 by omega, show 40 * (j + 1) = 40 * j + 20 + 20 by omega]
            exact HtD.out
          case measure => simp [intOf]; omega
        · obtain rfl : j = l.length := by omega
          have hgq := hmq.heap H4.out (fun h => h)
          have Htw := Lib.hid htw
          have Hox := Lib.hid hox
          have Hoz := Lib.hid hoz
          have Hmq := Lib.hid hmq
          have Hm0q := Lib.hid hm0q
          have Hgq := Lib.hid hgq
          clear htw hox hoz hmq hm0q hgq
          go_wp2_with fail
          refine wp_region_news2 [.rd 0, .rd 1, .rd 3, .rd 4, .go 2, .go 5, .rd 6, .rd 7] [0, 1, 2, 3, 4, 5, 6, 7] (by kernel_rfl) (by kernel_rfl) (fun _ _ d _ _ h => (by cases d <;> exact h)) ?_
          refine news_pure rfl ?_ ?_ (fun w0 => ?_) (fun K hK => ?_)
          · (try simp only [List.getElem_toArray]); (try simp only [List.getElem_cons_succ]); (try simp only [List.getElem_cons_zero])
            go_simp; done
          rotate_left
          · (try simp only [List.getElem_toArray]); (try simp only [List.getElem_cons_succ]); (try simp only [List.getElem_cons_zero])
            go_simp; with_reducible rfl
          (try simp only [List.getElem_toArray]); (try simp only [List.getElem_cons_succ]); (try simp only [List.getElem_cons_zero])
          go_simp; refine hK _ ?_; clear hK K
          refine news_rd rfl rfl ?_ ((fun y : World => y.heap[w.heap.size]? = some (.cells #[.string (ev7S es), .slice na E.length nc] 32 (0, 0)))) ((fun _ _ m h => m.heap h (fun h => h))) (heap_drew_ Hgq.out) ?_ (fun w0 h0 => ?_) (fun K hK => ?_)
          · (try simp only [List.getElem_toArray]); (try simp only [List.getElem_cons_succ]); (try simp only [List.getElem_cons_zero])
            go_simp; done
          rotate_left
          · (try simp only [List.getElem_toArray]); (try simp only [List.getElem_cons_succ]); (try simp only [List.getElem_cons_zero])
            have f0 := cell_of (j := 0) h0 rfl; have f1 := cell_of (j := 1) h0 rfl; clear h0; go_simp; with_reducible rfl
          (try simp only [List.getElem_toArray]); (try simp only [List.getElem_cons_succ]); (try simp only [List.getElem_cons_zero])
          go_simp; refine hK _ ?_; clear hK K
          refine news_pure rfl ?_ ?_ (fun w0 => ?_) (fun K hK => ?_)
          · (try simp only [List.getElem_toArray]); (try simp only [List.getElem_cons_succ]); (try simp only [List.getElem_cons_zero])
            go_simp; done
          rotate_left
          · (try simp only [List.getElem_toArray]); (try simp only [List.getElem_cons_succ]); (try simp only [List.getElem_cons_zero])
            go_simp; with_reducible rfl
          (try simp only [List.getElem_toArray]); (try simp only [List.getElem_cons_succ]); (try simp only [List.getElem_cons_zero])
          go_simp; refine hK _ ?_; clear hK K
          refine news_rd rfl rfl ?_ ((fun y : World => y.heap[w.heap.size]? = some (.cells #[.string (ev7S es), .slice na E.length nc] 32 (0, 0)))) ((fun _ _ m h => m.heap h (fun h => h))) (heap_drew_ Hgq.out) ?_ (fun w0 h0 => ?_) (fun K hK => ?_)
          · (try simp only [List.getElem_toArray]); (try simp only [List.getElem_cons_succ]); (try simp only [List.getElem_cons_zero])
            go_simp; done
          rotate_left
          · (try simp only [List.getElem_toArray]); (try simp only [List.getElem_cons_succ]); (try simp only [List.getElem_cons_zero])
            have f0 := cell_of (j := 0) h0 rfl; have f1 := cell_of (j := 1) h0 rfl; clear h0; go_simp; with_reducible rfl
          (try simp only [List.getElem_toArray]); (try simp only [List.getElem_cons_succ]); (try simp only [List.getElem_cons_zero])
          go_simp; refine hK _ ?_; clear hK K
          have hmd : Mod (fun _ => False) wq wq.drew := (Mod.refl _ _).drew
          have hrdq : RdSl wq.drew 6 (.slice na E.length nc) E.length (atts E) := Hrd4.out.mod (Hmq.out.trans hmd (fun _ _ h => h)) (fun _ _ h => h)
          obtain ⟨V, hV⟩ : ∃ V, matL (ordM l (fun i => i) l.length) (ev7S es) E = V := ⟨_, rfl⟩
          have hV2 : matL (ordM l (fun i => (i + G) % l.length) l.length) (ev7S es) E = V := (ords_same hG1 _ _).trans hV
          have hVl : V.length ≤ 20 := by have h1 := matL_len (ordM l (fun i => i) l.length) (ev7S es) E; rw [hV, ordM_len] at h1; omega
          refine news_one (newsgo_yes rfl ?_ (fun K hK => ?_))
          · (try simp only [List.getElem_toArray]); (try simp only [List.getElem_cons_succ]); (try simp only [List.getElem_cons_zero])
            go_simp; done
          go_wp2_with fail
          have hp1 := imatch_at wq.drew bx ox Cx _ (20 * l.length) (Htw.out.x.mod hmd (fun _ _ h => h)) (by omega) (ev7S es) (by have := ev7S_size (s := es); omega) (.slice na E.length nc) E hrdq (by omega) HEs.out
          refine hp1.mono ?_
          rintro e wA ⟨v1, rfl, ho1, hf1, hmA⟩
          rw [hV] at ho1
          obtain ⟨a1, c1, rfl, -⟩ := ho1.shape
          refine hK _ _ (fun _ => hmA) ?_
          clear hK K hp1
          refine news_one (newsgo_yes rfl ?_ (fun K hK => ?_))
          · (try simp only [List.getElem_toArray]); (try simp only [List.getElem_cons_succ]); (try simp only [List.getElem_cons_zero])
            go_simp; done
          go_wp2_with fail
          have hp2 := imatch_at wA bz oz Cz _ (40 * l.length) ((Htw.out.z.mod hmd (fun _ _ h => h)).mod hmA (fun _ _ h => h)) (by omega) (ev7S es) (by have := ev7S_size (s := es); omega) (.slice na E.length nc) E (hrdq.mod hmA (fun _ _ h => h)) (by omega) HEs.out
          refine hp2.mono ?_
          rintro e wB ⟨v2, rfl, ho2, hf2, hmB⟩
          rw [hV2] at ho2
          obtain ⟨a2, c2, rfl, -⟩ := ho2.shape
          refine hK _ _ (fun _ => hmB) ?_
          clear hK K hp2
          refine news_pure rfl ?_ ?_ (fun w0 => ?_) (fun K hK => ?_)
          · (try simp only [List.getElem_toArray]); (try simp only [List.getElem_cons_succ]); (try simp only [List.getElem_cons_zero])
            go_simp; done
          rotate_left
          · (try simp only [List.getElem_toArray]); (try simp only [List.getElem_cons_succ]); (try simp only [List.getElem_cons_zero])
            go_simp; with_reducible rfl
          (try simp only [List.getElem_toArray]); (try simp only [List.getElem_cons_succ]); (try simp only [List.getElem_cons_zero])
          go_simp; refine hK _ ?_; clear hK K
          refine news_pure rfl ?_ ?_ (fun w0 => ?_) (fun K hK => ?_)
          · (try simp only [List.getElem_toArray]); (try simp only [List.getElem_cons_succ]); (try simp only [List.getElem_cons_zero])
            go_simp; done
          rotate_left
          · (try simp only [List.getElem_toArray]); (try simp only [List.getElem_cons_succ]); (try simp only [List.getElem_cons_zero])
            go_simp; with_reducible rfl
          (try simp only [List.getElem_toArray]); (try simp only [List.getElem_cons_succ]); (try simp only [List.getElem_cons_zero])
          go_simp; refine hK _ ?_; clear hK K
          refine news_nil ?_
          have hmqB : Mod (fun _ => False) wq wB := (hmd.trans hmA (fun _ _ h => h)).trans hmB (fun _ _ h => h)
          have hm0B := Hm0q.out.trans hmqB (fun _ _ h => h)
          have ho1B := (ho1.mod hmB (fun _ _ h => h)).rd
          have htwB := Htw.out.mod hmqB
          have Ho1B := Lib.hid ho1B
          have Ho2 := Lib.hid ho2
          have HmqB := Lib.hid hmqB
          have Hm0B := Lib.hid hm0B
          have HtwB := Lib.hid htwB
          have HV := Lib.hid hV
          have HV2 := Lib.hid hV2
          clear ho1B ho2 hmqB hm0B htwB hV hV2 hrdq ho1 hf1 hmA hf2 hmB hmd
          go_wp2_with fail
          go_loopw [114] (fun i wr => ∃ j : Nat, i = .int .i64 j ∧ j ≤ V.length ∧ Mod (fun _ => False) wB wr) (fun i _ => V.length - (intOf i).toNat)
          case atStart => exact ⟨0, rfl, Nat.zero_le _, Mod.refl _ _⟩
          case round =>
            revert wr
            intro wu hrel
            obtain ⟨j, rfl, hj, hmu⟩ := hrel
            by_cases hlt : j < V.length
            · have hlt' : (j : Int) < V.length := by omega
              obtain ⟨id, hidj⟩ : ∃ id, V[j]? = some id := ⟨_, List.getElem?_eq_getElem hlt⟩
              obtain ⟨s1, o1, rfl, ca⟩ := rd_int (Ho1B.out.mod hmu (fun _ _ h => h)) hidj
              obtain ⟨s2, o2, rfl, cb⟩ := rd_int (Ho2.out.rd.mod hmu (fun _ _ h => h)) hidj
              have Hidj := Lib.hid hidj
              have Hmu := Lib.hid hmu
              clear hidj hmu
              go_wp2_with fail
              go_quiet (fail)
              go_wp2_with fail
              go_roundw
              case rel => exact ⟨j + 1, by go_num, hlt, by first | exact Hmu.out | exact Hmu.out.drewN _⟩
              case measure => simp [intOf]; omega
            · obtain rfl : j = V.length := by omega
              have htu := HtwB.out.mod hmu
              have hl1 := ilen_at wu bx ox Cx _ _ htu.x
              have hl2 := ilen_at wu bz oz Cz _ _ htu.z
              rw [ordM_len] at hl1 hl2
              have hm0u := Hm0B.out.trans hmu (fun _ _ h => h)
              have Hmu := Lib.hid hmu
              have Htu := Lib.hid htu
              have Hl1 := Lib.hid hl1
              have Hl2 := Lib.hid hl2
              have Hm0u := Lib.hid hm0u
              clear hmu htu hl1 hl2 hm0u
              go_wp2_with fail
              refine Hl1.out.mono ?_
              rintro e wx ⟨rfl, hwx⟩
              obtain rfl := hwx.symm
              go_wp2_with fail
              refine Hl2.out.mono ?_
              rintro e wx ⟨rfl, hwx⟩
              obtain rfl := hwx.symm
              go_wp2_with fail
              go_ret
              exact ⟨rfl, Hm0u.out⟩
end Go.Proofs.YtloplmaekonenaaGreatDoor
