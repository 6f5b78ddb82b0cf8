/-
  CodecValues: values come back from their bytes, each of its own length.
-/
import Derived.Test.YtfpghpicknnfgaaVals1
import Derived.Test.YtfpghpicknnfgaaWrval
import Derived.Test.YtfpghpicknnfgaaFitc
import Derived.Test.YtfpghpicknnfgaaEvb
namespace Go.Proofs.Ytfpghpicknnfgaa
open Go.RowKit

section
variable {P : Program} {w : World}
/-- A struct is written into a row, from some place on. -/
theorem run_storeVar_at (ty : TypeId) (g off : Nat) (cur : Array Value) (t : TypeId) (cs : List Value) (hg : w.heap[g]? = some (.cells cur t (0, 0))) (hl : off + cs.length ≤ cur.size)
    (hi : (P.info? ty).map (·.size) = some cs.length) (h1 : ∀ u ∈ cs, u.oneCell' = true) :
    (storeVar ty ⟨g, off, none⟩ (.agg cs.toArray)).run P w = .ok () (w.setRow g (cur.toList.take off ++ cs ++ cur.toList.drop (off + cs.length)).toArray) := by
  have hst := run_storeCells_at P g off t cs 0 cur w hg (by omega) h1
  cases hq : P.info? ty with
  | none => simp [hq] at hi
  | some i =>
    have hs : i.size = cs.length := by simpa [hq] using hi
    simp only [Nat.add_zero] at hst
    simp [storeVar, Value.cells, sizeOf, typeInfo, hq, hs, hst]
theorem wp_store_at {o : Oper} {a : Act} {K : Act → World → Prop} {Q : Exit → Act → World → Prop} (ty : TypeId) (x y : Operand) (ho : o.op = .store ty x y) (g off : Nat)
    (hx : a.eval x = .pointer (some ⟨g, off, none⟩)) (cur : Array Value) (t : TypeId) (hg : w.heap[g]? = some (.cells cur t (0, 0))) (cs : List Value) (hy : a.eval y = .agg cs.toArray) (hl : off + cs.length ≤ cur.size)
    (hi : (P.info? ty).map (·.size) = some cs.length) (h1 : ∀ u ∈ cs, u.oneCell' = true)
    (h : K (a.put o.dst undef) (w.setRow g (cur.toList.take off ++ cs ++ cur.toList.drop (off + cs.length)).toArray)) : o.wp P a w K Q := by
  have hr := run_storeVar_at (P := P) (w := w) ty g off cur t cs hg hl hi h1
  unfold Oper.wp execOp
  simp only [ho, hx, hy, Instr.storeAt, Instr.sureAddr, Sem.run_bind, Sem.run_pure, Result.andThen_ok, hr]
  exact h
end

theorem vals_length (l : List V) : (vals l).length = l.length * 5 := by
  induction l with
  | nil => rfl
  | cons a l ih =>
    show (a.cells ++ vals l).length = _
    rw [List.length_append, ih, V.cells_length, List.length_cons]
    omega
theorem vals_append (l m : List V) : vals (l ++ m) = vals l ++ vals m := by unfold vals; simp
theorem vals_cons (a : V) (l : List V) : vals (a :: l) = a.cells ++ vals l := by unfold vals; simp

theorem list_put {α : Type} {L A X B C : List α} {off n : Nat} (hoff : off ≤ L.length) (h : (L.drop off).take n = A ++ (X ++ B)) (hC : C.length = X.length) (hn : n = A.length + (X.length + B.length)) :
    ((L.take (off + A.length) ++ C ++ L.drop (off + A.length + C.length)).drop off).take n = A ++ (C ++ B) := by
  obtain ⟨R, hR⟩ : ∃ R, L = L.take off ++ ((A ++ (X ++ B)) ++ R) := ⟨(L.drop off).drop n, by rw [← h, List.take_append_drop, List.take_append_drop]⟩
  have hP : (L.take off).length = off := by rw [List.length_take]; omega
  generalize L.take off = Q at hR hP
  have e1 : L.take (off + A.length) = Q ++ A := by
    rw [hR, show Q ++ (A ++ (X ++ B) ++ R) = (Q ++ A) ++ (X ++ (B ++ R)) by simp, show off + A.length = (Q ++ A).length by rw [List.length_append, hP], List.take_left]
  have e2 : L.drop (off + A.length + C.length) = B ++ R := by
    rw [hR, show Q ++ (A ++ (X ++ B) ++ R) = ((Q ++ A) ++ X) ++ (B ++ R) by simp, show off + A.length + C.length = ((Q ++ A) ++ X).length by rw [List.length_append, List.length_append, hP, hC], List.drop_left]
  rw [e1, e2, show Q ++ A ++ C ++ (B ++ R) = Q ++ ((A ++ (C ++ B)) ++ R) by simp]
  conv => lhs; arg 2; arg 1; rw [← hP]
  rw [List.drop_left, show n = (A ++ (C ++ B)).length by rw [List.length_append, List.length_append, hC]; exact hn, List.take_left]

/-- One value of a row of our own, written anew. -/
theorem own_put {w : World} {v : Value} {l m : List V} {x c : V} (h : OwnSl w 55 5 v (l ++ x :: m).length (vals (l ++ x :: m))) : ∃ g off cap cur, v = .slice (some ⟨g, off, none⟩) (l ++ x :: m).length cap ∧
    w.heap[g]? = some (.cells cur 55 (0, 0)) ∧ off + l.length * 5 + 5 ≤ cur.size ∧ (l ++ x :: m).length ≤ cap ∧
    OwnSl (w.setRow g (cur.toList.take (off + l.length * 5) ++ c.cells ++ cur.toList.drop (off + l.length * 5 + c.cells.length)).toArray) 55 5 v (l ++ c :: m).length (vals (l ++ c :: m)) := by
  rcases h.2 with ⟨-, h0⟩ | ⟨g, off, cap, cur, hv, hg, hn, hc, hs, ht⟩
  · simp at h0
  have hlen : (l ++ x :: m).length = l.length + 1 + m.length := by simp; omega
  have hlen' : (l ++ c :: m).length = l.length + 1 + m.length := by simp; omega
  have hsz : off + (l.length + 1 + m.length) * 5 ≤ cur.size := by
    have : (l ++ x :: m).length * 5 ≤ cap * 5 := Nat.mul_le_mul_right _ hn
    omega
  refine ⟨g, off, cap, cur, hv, hg, by omega, hn, ⟨by rw [vals_length], .inr ⟨g, off, cap, _, by rw [hv, hlen, hlen'], setRow_heap w g cur _ _ _ hg, by omega, hc, ?_, ?_⟩⟩⟩
  · simp only [List.size_toArray, List.length_append, List.length_take, List.length_drop, Array.length_toList, V.cells_length]
    omega
  · rw [hlen] at ht
    rw [hlen']
    have hq := list_put (L := cur.toList) (A := vals l) (X := x.cells) (B := vals m) (C := c.cells) (off := off) (n := (l.length + 1 + m.length) * 5) (by rw [Array.length_toList]; omega) (by rw [ht, vals_append, vals_cons]) rfl (by rw [vals_length, vals_length, V.cells_length]; omega)
    rw [vals_length] at hq
    rw [vals_append, vals_cons]
    exact hq

theorem vals_T : SliceT Try.prog 53 55 5 48 := sliceT (by kernel_rfl) (by kernel_rfl)
theorem vals_one (l : List V) : ∀ u ∈ vals l, u.oneCell' = true := fun u hu => by
  unfold vals at hu
  obtain ⟨x, -, hx⟩ := List.mem_flatMap.1 hu
  exact List.all_eq_true.1 (show x.cells.all (·.oneCell') = true from rfl) u hx

/-- Bytes that are owned, or none. -/
theorem own_bytes0 {w : World} {v : Value} {bs : List UInt8} (h : OwnSl w 5 1 v bs.length (u8s bs)) {B p : Nat} (hB : ∀ b, v.ownBlock = some b → B ≤ b) (hp : p < w.heap.size) : ∃ G, BytesAt w G v bs ∧ G < w.heap.size ∧ (G = p ∨ B ≤ G) := by
  have hlt := h.lt
  rcases h.2 with ⟨rfl, h0⟩ | ⟨g, off, cap, cur, hv, hg, hn, -⟩
  · obtain rfl := List.eq_nil_of_length_eq_zero h0
    exact ⟨p, ⟨none, 0, rfl, Nat.le_refl _, fun _ => rfl, fun b hb => (by cases hb)⟩, hp, .inl rfl⟩
  · obtain ⟨-, a, c, h1, h2, h3, h4⟩ := h.rd
    rw [hv] at h1
    cases h1
    obtain ⟨g', off', h5, h6⟩ := h4 _ rfl
    cases h5
    exact ⟨g, ⟨_, cap, hv, hn, (fun h => by cases h), fun b hb => ⟨off, (by cases hb; rfl), (Array.getElem?_eq_some_iff.1 hg).1, fun j u hu => h6 j _ (by simp [u8s, hu])⟩⟩, (Array.getElem?_eq_some_iff.1 hg).1, .inr (hB g (by rw [hv]; rfl))⟩

set_option maxRecDepth 20000 in
set_option maxHeartbeats 8000000 in
theorem values_walk (v : Value) (l : List V) (w : World) (hv : RdSl w 5 v l.length (vals l)) (hll : l.length ≤ maxLen) (hf : ∀ x ∈ l, (-9223372036854775808 ≤ x.int ∧ x.int ≤ 9223372036854775807) ∧ x.num < 2 ^ 64) :
    Calls Try.prog 7 #[v] w fun e w' => e = .returned (.bool true) ∧ Mod (fun _ => False) w w' := by
  obtain ⟨a, cap, rfl⟩ : ∃ a c, v = .slice a l.length c := by obtain ⟨-, a, c, h, -⟩ := hv; exact ⟨a, c, h⟩
  obtain ⟨wa, hwa⟩ : ∃ wa, wa = w.alloc (.cells #[.slice a l.length cap] 53) := ⟨_, rfl⟩
  have hma : Mod (fun _ => False) w wa := hwa ▸ (Mod.refl (fun _ => False) w).alloc _
  have hga : wa.heap[w.heap.size]? = some (.cells #[.slice a l.length cap] 53 (0, 0)) := hwa ▸ heap_alloc_new w _
  have hsa : wa.heap.size = w.heap.size + 1 := by rw [hwa]; simp
  have hll' : (l.length : Int) ≤ 9223372036854775807 := by simp only [maxLen] at hll; omega
  have Hf := Lib.hid (fit_at wa)
  have Hv := Lib.hid hv
  have Hfit := Lib.hid hf
  have Hma := Lib.hid hma
  have Hga := Lib.hid hga
  have Hwa := Lib.hid hwa
  clear hv hf hma hga hwa hll
  go_enter Try.func7, Try.ntmps7
  go_wp2_with fail
  rw [← Hwa.out]
  refine Hf.out.mono ?_
  rintro e w1 ⟨rfl, hm1⟩
  have hg1 := hm1.heap Hga.out (fun h => h)
  have c1 : w1.cell? ⟨w.heap.size, 0, none⟩ = some (.slice a l.length cap) := cell_of hg1 rfl
  have hm01 : Mod (fun _ => False) w w1 := Hma.out.trans hm1 (fun _ _ h => h)
  have hs1 := hm1.size
  have hv1 : RdSl w1 5 (.slice a l.length cap) l.length (vals l) := by
    obtain ⟨h1, a', c', h2, h3, h4, h5⟩ := Hv.out
    refine ⟨h1, a', c', h2, h3, h4, fun b hb => ?_⟩
    obtain ⟨g, off, h6, h7⟩ := h5 b hb
    exact ⟨g, off, h6, fun j u hu => hm01.cell (h7 j u hu) (fun h => h)⟩
  have Hg1 := Lib.hid hg1
  have Hm1 := Lib.hid hm01
  have Hv1 := Lib.hid hv1
  clear hg1 hm1 hm01 hv1 Hf
  by_cases hbx : l.length ≤ 30
  rotate_left
  · have hbx' : (30 : Int) < l.length := by omega
    go_wp2
    go_ret
    exact ⟨rfl, Hm1.out⟩
  have hbx' : (l.length : Int) ≤ 30 := by omega
  go_wp2_with (first | (refine wpList_append_sl rfl (.const (.slice none 0 0)) (.tmp 14) 53 rfl 55 5 48 vals_T (.slice none 0 0) 0 [] rfl (OwnSl.nil _ _ _) _ l.length (vals l) rfl Hv1.out (vals_one l) (by omega) (by unfold maxLen; omega) ?_; intro ad cap2 w2 hA; rw [Nat.zero_add] at *; have HAp := Lib.hid hA; have hg2 := hA.2.1.heap Hg1.out (fun h => by cases h); have k2 : w2.cell? ⟨w.heap.size, 0, none⟩ = some (.slice a l.length cap) := cell_of hg2 rfl; have f2 : w2.frozen? ⟨w.heap.size, 0, none⟩ = false := fr_of hg2; have Hg2 := Lib.hid hg2; have hkl2 : w.heap.size < w2.heap.size := (Array.getElem?_eq_some_iff.1 hg2).1; clear hA hg2) | fail)
  obtain ⟨wB, hwB⟩ : ∃ wB, (w2.setCell ⟨w.heap.size, 0, none⟩ (.slice ad l.length cap2)).alloc (.cells #[.slice none 0 0] 34) = wB := ⟨_, rfl⟩
  rw [hwB]
  have hmS : Mod (fun k => k = w.heap.size) w2 (w2.setCell ⟨w.heap.size, 0, none⟩ (.slice ad l.length cap2)) := (Mod.refl (fun k => k = w.heap.size) w2).setCell (fun _ => rfl) _
  have hsS : (w2.setCell ⟨w.heap.size, 0, none⟩ (.slice ad l.length cap2)).heap.size = w2.heap.size := by simp
  have hm2B : Mod (fun k => k = w.heap.size) w2 wB := hwB ▸ hmS.alloc _
  have hm12 : Mod (fun _ => False) w1 w2 := HAp.out.2.1.mono (fun k _ hk => by cases hk)
  have hmB : Mod (fun _ => False) w wB := (Hm1.out.trans hm12 (fun _ _ h => h)).on hm2B (fun b hb => .inr (by omega))
  have hklB : wB.heap[w.heap.size]? = some (.cells #[.slice ad l.length cap2] 53 (0, 0)) := hwB ▸ heap_old (heap_set Hg2.out)
  have hpB : wB.heap[w2.heap.size]? = some (.cells #[.slice none 0 0] 34 (0, 0)) := by
    have := heap_alloc_new (w2.setCell ⟨w.heap.size, 0, none⟩ (.slice ad l.length cap2)) (.cells #[.slice none 0 0] 34)
    rw [hsS] at this
    exact hwB ▸ this
  have hsB : wB.heap.size = w2.heap.size + 1 := by rw [← hwB]; simp
  have hs12 := hm12.size
  have hblk : ∀ b, (Value.slice ad l.length cap2).ownBlock = some b → w1.heap.size ≤ b ∧ b < w2.heap.size := fun b hb => by
    refine ⟨?_, HAp.out.1.lt b hb⟩
    rcases HAp.out.2.2 with h | ⟨q, h, hq⟩
    · rw [h] at hb; cases hb
    · rw [h] at hb; cases hb; exact hq
  have hownB : OwnSl wB 55 5 (.slice ad l.length cap2) l.length (vals l) := by
    have := HAp.out.1
    rw [List.nil_append] at this
    exact this.mod hm2B (fun b hb => by have := hblk b hb; omega)
  have HmB := Lib.hid hmB
  have HklB := Lib.hid hklB
  have HpB := Lib.hid hpB
  have HownB := Lib.hid hownB
  have Hblk := Lib.hid hblk
  clear hmS hm2B hm12 hmB hklB hpB hownB hblk k2 f2 hwB c1
  go_loopw [4, 18] (fun nn i wr => ∃ j : Nat, ∃ v', ∃ nb : Nat, i = .int .i64 j ∧ j ≤ l.length ∧ nn = .int .i64 nb ∧ ((l.take j).flatMap valBytes).length = nb ∧ wr.heap[w.heap.size]? = some (.cells #[.slice ad l.length cap2] 53 (0, 0)) ∧
      OwnSl wr 55 5 (.slice ad l.length cap2) l.length (vals ((l.take j).map V.canon ++ l.drop j)) ∧ Wtr wr w2.heap.size v' ((l.take j).flatMap valBytes) ∧ (∀ b, inBlock v' b → wB.heap.size ≤ b) ∧
      Mod (fun _ => False) w wr ∧ (∀ x ∈ l.take j, x.right = true) ∧ wB.heap.size ≤ wr.heap.size) (fun _ i _ => l.length - (intOf i).toNat)
  case atStart => exact ⟨0, .slice none 0 0, 0, rfl, Nat.zero_le _, rfl, rfl, HklB.out, HownB.out, ⟨HpB.out, OwnSl.nil _ _ _⟩, fun b hb => (by cases hb), HmB.out, fun x hx => (by simp at hx), Nat.le_refl _⟩
  case round =>
    obtain ⟨j, v1, nb, rfl, hj, rfl, hnb, hkl, hown, hwt, hvb, hmw, hrt, hsz⟩ := hrel
    have Hkl := Lib.hid hkl
    have Hown := Lib.hid hown
    have Hwt := Lib.hid hwt
    have Hvb := Lib.hid hvb
    have Hmw := Lib.hid hmw
    have Hrt := Lib.hid hrt
    have Hnb := Lib.hid hnb
    clear hkl hown hwt hvb hmw hrt hnb
    by_cases hlt : j < l.length
    · have hlt' : (j : Int) < l.length := by omega
      obtain ⟨x, hxj⟩ : ∃ x, l[j]? = some x := ⟨_, List.getElem?_eq_getElem hlt⟩
      have hd : l.drop j = x :: l.drop (j + 1) := by
        rw [List.drop_eq_getElem_cons hlt]
        congr 1
        exact (List.getElem?_eq_some_iff.1 hxj).2
      have hl1 : ((l.take j).map V.canon).length = j := by rw [List.length_map, List.length_take]; omega
      obtain ⟨L1, hL1⟩ : ∃ L1, (l.take j).map V.canon = L1 := ⟨_, rfl⟩
      obtain ⟨L2, hL2⟩ : ∃ L2, l.drop (j + 1) = L2 := ⟨_, rfl⟩
      have hown := Hown.out
      rw [hL1] at hl1 hown
      rw [hd, hL2] at hown
      have hlen : (L1 ++ x :: L2).length = l.length := by rw [List.length_append, hl1, List.length_cons, ← hL2, List.length_drop]; omega
      obtain ⟨g, off, hab⟩ : ∃ g off, ad = some ⟨g, off, none⟩ := by
        rcases hown.2 with ⟨-, h0⟩ | ⟨g, off, c, cur, h1, -⟩
        · omega
        · cases h1; exact ⟨g, off, rfl⟩
      subst hab
      have hcell : CellsAt wr g (off + j * 5) x.cells := by
        obtain ⟨-, a', c', h1, -, -, h4⟩ := hown.rd
        cases h1
        obtain ⟨g', off', h5, h6⟩ := h4 _ rfl
        cases h5
        intro i u hu
        have := h6 (5 * j + i) u (vals_at _ (by rw [List.getElem?_append_right (by omega), hl1, Nat.sub_self]; rfl) hu)
        rw [show off + j * 5 + i = off + (5 * j + i) by omega]
        exact this
      have c0 : wr.cell? ⟨g, off + j * 5, none⟩ = some (.int .i64 x.kind) := hcell 0 _ rfl
      have c1 : wr.cell? ⟨g, off + j * 5 + 1, none⟩ = some (.int .i64 x.int) := hcell 1 _ rfl
      have c2 : wr.cell? ⟨g, off + j * 5 + 2, none⟩ = some (.float .f64 x.num) := hcell 2 _ rfl
      have c3 : wr.cell? ⟨g, off + j * 5 + 3, none⟩ = some (.string x.text) := hcell 3 _ rfl
      have c4 : wr.cell? ⟨g, off + j * 5 + 4, none⟩ = some (.bool x.yes) := hcell 4 _ rfl
      have hcap : (l.length : Int) ≤ cap2 := by
        obtain ⟨a', c', h1, h2⟩ := hown.shape
        cases h1
        omega
      obtain ⟨wz, hwz⟩ : ∃ wz, wr.alloc (.cells x.cells.toArray 55) = wz := ⟨_, rfl⟩
      have hmz : Mod (fun _ => False) wr wz := hwz ▸ (Mod.refl (fun _ => False) wr).alloc _
      have hgz : wz.heap[wr.heap.size]? = some (.cells x.cells.toArray 55 (0, 0)) := hwz ▸ heap_alloc_new wr _
      have hfx := Hfit.out x (List.mem_of_getElem? hxj)
      have Hlen := Lib.hid hlen
      have Hown2 := Lib.hid hown
      have HL1 := Lib.hid hL1
      have HL2 := Lib.hid hL2
      have Hd := Lib.hid hd
      have Hxj := Lib.hid hxj
      have Hfx := Lib.hid hfx
      have Hwz := Lib.hid hwz
      have Hmz := Lib.hid hmz
      have Hgz := Lib.hid hgz
      clear hlen hown hL1 hL2 hd hxj hfx hwz hmz hgz hcell
      go_wp2_with (first | (refine wpList_store_new rfl 55 (.tmp 6) (.tmp 22) rfl rfl _ 55 x.cells rfl rfl (by kernel_rfl) (fun u hu => List.all_eq_true.1 (show x.cells.all (·.oneCell') = true from rfl) u hu) ?_; rw [show wr.alloc (.cells x.cells.toArray 55) = wz from Hwz.out]) | (refine wpList_load_cells rfl 55 (.tmp 6) rfl wr.heap.size 0 rfl x.cells (CellsAt.row Hgz.out) (by kernel_rfl) (by kernel_rfl) ?_) | fail)
      refine (value_right x wz).mono ?_
      rintro e w3 ⟨rfl, hm3⟩
      have hmw3 := (Hmw.out.trans Hmz.out (fun _ _ h => h)).trans hm3 (fun _ _ h => h)
      have hmr3 := Hmz.out.trans hm3 (fun _ _ h => h)
      have hgz3 := hm3.heap Hgz.out (fun h => h)
      have Hmw3 := Lib.hid hmw3
      have Hmr3 := Lib.hid hmr3
      have Hgz3 := Lib.hid hgz3
      clear hmw3 hmr3 hgz3 hm3 c0 c1 c2 c3 c4
      cases hxr : x.right with
      | false =>
        go_wp2
        go_ret
        exact ⟨rfl, Hmw3.out⟩
      | true =>
        have hS : (fun y : World => y.cell? ⟨w.heap.size, 0, none⟩ = some (.slice (some ⟨g, off, none⟩) l.length cap2) ∧ AllCells y wr.heap.size 0 5 ∧ cellsOf y wr.heap.size 0 5 = x.cells.toArray) w3.drew :=
          ⟨cell_of (heap_drew_ (Hmr3.out.heap Hkl.out (fun h => h))) rfl, (CellsAt.row (heap_drew_ Hgz3.out)).all rfl, (CellsAt.row (heap_drew_ Hgz3.out)).is rfl⟩
        go_wp2_with fail
        refine wp_region_script [.rd 0, .rd 1, .rd 2, .go 3, .go 4, .go 5] [0, 1, 2, 3] (fun y : World => y.cell? ⟨w.heap.size, 0, none⟩ = some (.slice (some ⟨g, off, none⟩) l.length cap2) ∧ AllCells y wr.heap.size 0 5 ∧ cellsOf y wr.heap.size 0 5 = x.cells.toArray) (by kernel_rfl) (by kernel_rfl) (fun _ _ d _ _ h => (by cases d <;> exact h)) ?_
        refine walk_rd rfl ?_ (fun _ => hS) ?_ (fun w0 h0 => ?_) (fun K hK => ?_)
        · try simp only [List.getElem_toArray, List.getElem_cons_succ, List.getElem_cons_zero]
          go_simp; done
        rotate_left
        · try simp only [List.getElem_toArray, List.getElem_cons_succ, List.getElem_cons_zero]
          first
            | (obtain ⟨h1, h2, h3⟩ := h0 rfl; clear h0; go_simp; with_reducible rfl)
            | (clear h0; go_simp; with_reducible rfl)
        try simp only [List.getElem_toArray, List.getElem_cons_succ, List.getElem_cons_zero]
        go_simp; refine hK _ ?_; clear hK K
        refine walk_rd rfl ?_ (fun _ => hS) ?_ (fun w0 h0 => ?_) (fun K hK => ?_)
        · try simp only [List.getElem_toArray, List.getElem_cons_succ, List.getElem_cons_zero]
          go_simp; done
        rotate_left
        · try simp only [List.getElem_toArray, List.getElem_cons_succ, List.getElem_cons_zero]
          first
            | (obtain ⟨h1, h2, h3⟩ := h0 rfl; clear h0; go_simp; with_reducible rfl)
            | (clear h0; go_simp; with_reducible rfl)
        try simp only [List.getElem_toArray, List.getElem_cons_succ, List.getElem_cons_zero]
        go_simp; refine hK _ ?_; clear hK K
        refine walk_rd rfl ?_ (fun _ => hS) ?_ (fun w0 h0 => ?_) (fun K hK => ?_)
        · try simp only [List.getElem_toArray, List.getElem_cons_succ, List.getElem_cons_zero]
          go_simp; done
        rotate_left
        · try simp only [List.getElem_toArray, List.getElem_cons_succ, List.getElem_cons_zero]
          first
            | (obtain ⟨h1, h2, h3⟩ := h0 rfl; clear h0; go_simp; with_reducible rfl)
            | (clear h0; go_simp; with_reducible rfl)
        try simp only [List.getElem_toArray, List.getElem_cons_succ, List.getElem_cons_zero]
        go_simp; refine hK _ ?_; clear hK K
        refine walk_one (go_yes rfl ?_ (fun K hK => ?_))
        · try simp only [List.getElem_toArray, List.getElem_cons_succ, List.getElem_cons_zero]
          go_simp; done
        go_wp2_with fail
        refine (value_canon x w3.drew).mono ?_
        rintro e w4 ⟨rfl, hm4⟩
        have hmr4 := (Hmr3.out.drew).trans hm4 (fun _ _ h => h)
        have hkl4 := hmr4.heap Hkl.out (fun h => h)
        have hgz4 := hm4.heap (heap_drew_ Hgz3.out) (fun h => h)
        refine hK _ _ (fun _ _ => ⟨cell_of hkl4 rfl, (CellsAt.row hgz4).all rfl, (CellsAt.row hgz4).is rfl⟩) ?_
        clear hK K hS
        have hown4 := Hown2.out.mod hmr4 (fun _ _ h => h)
        obtain ⟨gq, offq, capq, cur, hq1, hq2, hq3, hq4, hq5⟩ := own_put (l := L1) (m := L2) (x := x) (c := x.canon) (by rw [Hlen.out]; exact hown4)
        rw [Hlen.out] at hq1 hq4
        cases hq1
        rw [hl1] at hq3 hq5
        refine walk_one (go_yes rfl ?_ (fun K hK => ?_))
        · try simp only [List.getElem_toArray, List.getElem_cons_succ, List.getElem_cons_zero]
          go_simp; done
        try simp only [List.getElem_toArray, List.getElem_cons_succ, List.getElem_cons_zero]
        go_simp
        refine hK _ _ (fun h => absurd h (by decide)) ?_
        clear hK K
        refine walk_one (go_yes rfl ?_ (fun K hK => ?_))
        · try simp only [List.getElem_toArray, List.getElem_cons_succ, List.getElem_cons_zero]
          go_simp; done
        try simp only [List.getElem_toArray, List.getElem_cons_succ, List.getElem_cons_zero]
        refine wp_store_at 55 (.tmp 30) (.tmp 29) rfl g (off + j * 5) rfl cur 55 hq2 x.canon.cells rfl (by rw [V.cells_length]; omega) (by kernel_rfl) (fun u hu => List.all_eq_true.1 (show x.canon.cells.all (·.oneCell') = true from rfl) u hu) ?_
        have hlen2 : (L1 ++ x.canon :: L2).length = l.length := by rw [← Hlen.out]; simp
        rw [hlen2] at hq5
        obtain ⟨w5, hw5⟩ : ∃ w5, w4.setRow g (cur.toList.take (off + j * 5) ++ x.canon.cells ++ cur.toList.drop (off + j * 5 + x.canon.cells.length)).toArray = w5 := ⟨_, rfl⟩
        have hm45 : Mod (fun k => k = g) w4 w5 := hw5 ▸ (Mod.refl (fun k => k = g) w4).setRow (fun _ => rfl) _
        rw [hw5] at hq5 ⊢
        have hgb := Hblk.out g rfl
        have hm05 : Mod (fun _ => False) w w5 := (Hmw.out.trans hmr4 (fun _ _ h => h)).on hm45 (fun b hb => .inr (by omega))
        have hmr5 : Mod (fun k => k = g) wr w5 := (hmr4.mono (fun _ _ h => h.elim)).trans hm45 (fun _ _ h => h)
        have hkl5 := hm45.heap hkl4 (by omega)
        have hgz5 := hm45.heap hgz4 (by omega)
        have hwt5 := Hwt.out.mod hmr5 (by omega) (fun k hk => by have := Hvb.out k hk; omega)
        refine hK _ _ (fun h => absurd h (by decide)) ?_
        clear hK K
        refine walk_nil ?_
        have hbl : ((l.take j).flatMap valBytes).length ≤ 300 * 30 := by
          have hall : ∀ y ∈ l.take j, (valBytes y).length ≤ 300 := fun y hy => by
            have := Hrt.out y hy
            unfold V.right at this
            simp only [Bool.and_eq_true, decide_eq_true_eq] at this
            exact valBytes_length y (by omega)
          have hb2 : ∀ m : List V, (∀ y ∈ m, (valBytes y).length ≤ 300) → (m.flatMap valBytes).length ≤ 300 * m.length := by
            intro m
            induction m with
            | nil => intro _; simp
            | cons y m ih =>
              intro hy
              rw [List.flatMap_cons, List.length_append, List.length_cons]
              have := hy y (by simp)
              have := ih (fun z hz => hy z (by simp [hz]))
              omega
          have := hb2 _ hall
          have hj30 : (l.take j).length ≤ 30 := by rw [List.length_take]; omega
          have := Nat.mul_le_mul_left 300 hj30
          omega
        have hxt : x.text.size ≤ 40 ∧ 0 ≤ x.kind ∧ x.kind ≤ 3 := by
          have := hxr
          unfold V.right at this
          simp only [Bool.and_eq_true, decide_eq_true_eq] at this
          omega
        have Hwv := Lib.hid (wr_value w5 w2.heap.size v1 _ hwt5 (by omega) x (by omega) Hfx.out.2)
        have Hkl5 := Lib.hid hkl5
        have Hgz5 := Lib.hid hgz5
        have Hq5 := Lib.hid hq5
        have Hm05 := Lib.hid hm05
        have Hmr5 := Lib.hid hmr5
        have Hxt := Lib.hid hxt
        have Hbl := Lib.hid hbl
        clear hkl5 hgz5 hq5 hm05 hmr5 hm45 hwt5 hkl4 hgz4 hown4 hq2 hq3 hq4 hm4 hmr4 hxt hbl hw5
        go_wp2_with (first | (refine wpList_load_cells rfl 55 (.tmp 6) rfl wr.heap.size 0 rfl x.cells (CellsAt.row Hgz5.out) (by kernel_rfl) (by kernel_rfl) ?_) | fail)
        refine Hwv.out.mono ?_
        rintro e w6 ⟨rfl, v6, hw6, hwr6⟩
        have hgn : ∀ b, b < w2.heap.size → ¬ (b = w2.heap.size ∨ inBlock v1 b) := fun b hb hk => by
          rcases hk with hk | hk
          · omega
          · have := Hvb.out b hk; omega
        have hkl6 := hwr6.mod.heap Hkl5.out (hgn _ (by omega))
        have hq6 := Hq5.out.mod hwr6.mod (fun b hb => hgn b (Hblk.out b hb).2)
        have hmw6 : Mod (fun _ => False) w w6 := Hm05.out.on hwr6.mod (fun b hb => by
          rcases hb with hb | hb
          · exact .inr (by omega)
          · have := Hvb.out b hb; exact .inr (by omega))
        have hgz6 := hwr6.mod.heap Hgz5.out (fun hk => by
          rcases hk with hk | hk
          · omega
          · obtain ⟨cur', hcur'⟩ := Hwt.out.own.elem _ hk
            have := (Array.getElem?_eq_some_iff.1 hcur').1
            omega)
        have hvb6 : ∀ b, inBlock v6 b → wB.heap.size ≤ b := fun b hb => by
          rcases hwr6.new b hb with h | h
          · exact Hvb.out b h
          · have := Hmr5.out.size; omega
        have hvl : ((l.take j).flatMap valBytes ++ valBytes x) = (l.take (j + 1)).flatMap valBytes := by
          rw [List.take_add_one, Hxj.out]
          simp
        rw [hvl] at hw6
        have hlj : ((l.take (j + 1)).flatMap valBytes).length = ((l.take j).flatMap valBytes).length + (valBytes x).length := by rw [← hvl, List.length_append]
        have hmap : (l.take (j + 1)).map V.canon ++ l.drop (j + 1) = L1 ++ x.canon :: L2 := by
          rw [List.take_add_one, Hxj.out, List.map_append, HL1.out, HL2.out]
          simp
        rw [← hmap] at hq6
        have hrt6 : ∀ y ∈ l.take (j + 1), y.right = true := fun y hy => by
          rw [List.take_add_one, Hxj.out] at hy
          rcases List.mem_append.1 hy with hy | hy
          · exact Hrt.out y hy
          · have : y = x := by simpa using hy
            rw [this]; exact hxr
        have hsz6 : wB.heap.size ≤ w6.heap.size := by have := hwr6.mod.size; have := Hmr5.out.size; omega
        have b0 : w6.cell? ⟨wr.heap.size, 0, none⟩ = some (.int .i64 x.kind) := cell_of hgz6 rfl
        have b3 : w6.cell? ⟨wr.heap.size, 3, none⟩ = some (.string x.text) := cell_of hgz6 rfl
        have bz : wr.heap.size < w6.heap.size := (Array.getElem?_eq_some_iff.1 hgz6).1
        have Hkl6 := Lib.hid hkl6
        have Hq6 := Lib.hid hq6
        have Hmw6 := Lib.hid hmw6
        have Hvb6 := Lib.hid hvb6
        have Hw6 := Lib.hid hw6
        have Hlj := Lib.hid hlj
        have Hrt6 := Lib.hid hrt6
        have hbl := Hbl.out
        rw [Hnb.out] at hbl
        obtain ⟨kd, tx, hkd⟩ : ∃ kd tx, x.kind = kd ∧ x.text = tx := ⟨_, _, rfl, rfl⟩
        have htxl := Hxt.out
        rw [hkd.1] at b0
        rw [hkd.2] at b3
        rw [hkd.1, hkd.2] at htxl
        have Hkd := Lib.hid hkd
        have htx' : (tx.size : Int) ≤ 40 := by omega
        have hbl' : (nb : Int) ≤ 9000 := by omega
        have hlenx : (valBytes x).length = if kd = 2 then 2 + tx.size else if kd = 3 then 2 else 9 := by
          unfold valBytes
          rw [hkd.1, hkd.2, List.length_cons]
          rcases (by omega : kd = 0 ∨ kd = 1 ∨ kd = 2 ∨ kd = 3) with h | h | h | h
          · subst h; simp [longBytes_length]
          · subst h; simp [longBytes_length]
          · subst h; simp [txt_length]; omega
          · subst h; simp
        have Hlx := Lib.hid hlenx
        clear hkl6 hq6 hmw6 hvb6 hw6 hlj hrt6 hkd hlenx hgz6 hvl hmap hwr6 Hwv hgn
        rcases (by omega : kd = 0 ∨ kd = 1 ∨ kd = 2 ∨ kd = 3) with h | h | h | h
        all_goals subst h
        all_goals go_wp2
        all_goals go_roundw
        all_goals first
          | exact ⟨j + 1, v6, nb + (valBytes x).length, by go_num, hlt, congrArg (Value.int IntKind.i64) (by have h := Hlx.out; simp at h; omega), by rw [Hlj.out, Hnb.out], heap_old Hkl6.out, Hq6.out.alloc _, Hw6.out.same ((Mod.refl _ w6).alloc _), Hvb6.out, Hmw6.out.alloc _, Hrt6.out, Nat.le_trans hsz6 ((Mod.refl (fun _ => False) w6).alloc _).size⟩
          | (simp [intOf]; omega)
    · obtain rfl : j = l.length := by omega
      have hown := Hown.out
      have hwt := Hwt.out
      have hnb := Hnb.out
      have hrt := Hrt.out
      rw [List.take_length] at hown hwt hnb hrt
      rw [List.drop_length, List.append_nil] at hown
      obtain ⟨TB, hTB⟩ : ∃ TB, l.flatMap valBytes = TB := ⟨_, rfl⟩
      rw [hTB] at hwt hnb
      have hTBl : TB.length ≤ 9000 := by
        have hb2 : ∀ m : List V, (∀ y ∈ m, y.right = true) → (m.flatMap valBytes).length ≤ 300 * m.length := by
          intro m
          induction m with
          | nil => intro _; simp
          | cons y m ih =>
            intro hy
            rw [List.flatMap_cons, List.length_append, List.length_cons]
            have h1 := hy y (by simp)
            unfold V.right at h1
            simp only [Bool.and_eq_true, decide_eq_true_eq] at h1
            have := valBytes_length y (by omega)
            have := ih (fun z hz => hy z (by simp [hz]))
            omega
        have h1 := hb2 l hrt
        rw [hTB] at h1
        have := Nat.mul_le_mul_left 300 hbx
        omega
      have hfits : ∀ x ∈ l, x.fits := fun x hx => ⟨hrt x hx, (Hfit.out x hx).1, (Hfit.out x hx).2⟩
      obtain ⟨wE, hwE⟩ : ∃ wE, wr.alloc (.cells #[.bool true] 4) = wE := ⟨_, rfl⟩
      have hmE : Mod (fun _ => False) wr wE := hwE ▸ (Mod.refl (fun _ => False) wr).alloc _
      have hgE : wE.heap[wr.heap.size]? = some (.cells #[.bool true] 4 (0, 0)) := hwE ▸ heap_alloc_new wr _
      have hwtE := hwt.same hmE
      have hpr : w2.heap.size < wr.heap.size := hwt.lt
      have Hby := Lib.hid (wr_bytes wE w2.heap.size v1 TB hwtE (by omega))
      have HownE := Lib.hid (hown.mod hmE (fun _ _ h => h))
      have HwtE := Lib.hid hwtE
      have HgE := Lib.hid hgE
      have HmE := Lib.hid hmE
      have HTB := Lib.hid hTB
      have HTBl := Lib.hid hTBl
      have Hfits := Lib.hid hfits
      have HwE := Lib.hid hwE
      have Hnb2 := Lib.hid hnb
      have hvlt := hwt.blt
      have Hvlt := Lib.hid hvlt
      clear hown hwt hnb hrt hTB hTBl hfits hmE hgE hwtE hvlt
      go_wp2_with (first | (rw [hwE]) | fail)
      refine Hby.out.mono ?_
      rintro e w5 ⟨v5, rfl, hown5, hfr5, hm5⟩
      have hsE := HmE.out.size
      have hs5 := hm5.size
      have hkgE : wr.heap.size < wE.heap.size := (Array.getElem?_eq_some_iff.1 HgE.out).1
      obtain ⟨G, hbG, hGl, hGor⟩ := own_bytes0 hown5 (B := wE.heap.size) (p := w2.heap.size) hfr5 (by omega)
      have hmr5 : Mod (fun _ => False) wr w5 := HmE.out.trans hm5 (fun _ _ h => h)
      have hmw5 : Mod (fun _ => False) w w5 := Hmw.out.trans hmr5 (fun _ _ h => h)
      have hkl5 := hmr5.heap Hkl.out (fun h => h)
      have hg5 := hm5.heap HgE.out (fun h => h)
      have hS5 := HownE.out.mod hm5 (fun _ _ h => h)
      have hS5' : OwnSl w5 55 5 (.slice ad l.length cap2) l.length (vals (l.map V.canon)) := hS5
      have hrd := read_at v5 G TB 31 #[.pointer (some ⟨w.heap.size, 0, none⟩), .pointer (some ⟨wr.heap.size, 0, none⟩)] w5 hbG hGl (fun args w => by simp [go_sem])
        (fun k ok w2' => Mod (fun j => j = wr.heap.size) w5 w2' ∧ w2'.heap[wr.heap.size]? = some (.cells #[.bool true] 4 (0, 0)) ∧ ok = true)
        (fun r k w2' hm2 hk hr hkr hklt hrd hkh => (values1 w2' r G w.heap.size wr.heap.size (.slice ad l.length cap2) l [] (by rw [HTB.out, List.append_nil]; exact hrd) (Nat.lt_of_lt_of_le hGl hm2.size) hbx Hfits.out (hS5'.mod hm2 (fun _ _ h => h)).rd (fun b hb => by have := Hblk.out b hb; omega) (hm2.heap hkl5 (fun h => h)) (hm2.heap hg5 (fun h => h)) (by omega) (by omega)).mono fun e w3 h => by
          obtain ⟨h1, h2, h3, h4⟩ := h
          exact ⟨h3.heap hkh (by omega), .inr ⟨[], h1, h2, (hm2.mono (fun _ _ h => h.elim)).on h3 (fun b hb => by omega), h4, rfl⟩⟩)
      have Hrd := Lib.hid hrd
      have Hmw5 := Lib.hid hmw5
      have Hwt5 := Lib.hid (HwtE.out.same hm5)
      clear hrd hmw5 hkl5 hg5 hS5 hS5' hmr5 hm5 hown5 hfr5 hbG Hby
      go_wp2_with fail
      refine Hrd.out.mono ?_
      rintro e w7 ⟨ok, w7', k7, rfl, ⟨hm7, hg7, rfl⟩, hk7, hm7'⟩
      have hmm7 : Mod (fun j => j = wr.heap.size) w5 w7 := hm7.on hm7' (fun b hb => .inr (by omega))
      have kg : w7.cell? ⟨wr.heap.size, 0, none⟩ = some (.bool true) := cell_of (hm7'.heap hg7 (by omega)) rfl
      have hmw7 : Mod (fun _ => False) w w7 := Hmw5.out.on hmm7 (fun b hb => .inr (by have := Hmw.out.size; omega))
      have hwt7 := Hwt5.out.mod hmm7 (by omega) (fun k hk => by have := Hvlt.out k hk; omega)
      have Hby7 := Lib.hid (wr_bytes w7 w2.heap.size v1 TB hwt7 (by have := HTBl.out; omega))
      have Hmw7 := Lib.hid hmw7
      clear hm7 hg7 hm7' hmm7 hmw7 hwt7 Hrd
      go_wp2_with fail
      refine Hby7.out.mono ?_
      rintro e w8 ⟨v8, rfl, hown8, -, hm8⟩
      obtain ⟨a8, c8, hv8, -⟩ := hown8.shape
      subst hv8
      have Hmw8 := Lib.hid (Hmw7.out.trans hm8 (fun _ _ h => h))
      have hnb8 := Hnb2.out
      subst hnb8
      clear hown8 hm8 Hby7
      go_wp2
      go_ret
      exact ⟨rfl, Hmw8.out⟩
end Go.Proofs.Ytfpghpicknnfgaa
