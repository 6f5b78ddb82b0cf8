/-
  CodecFilters: filters come back from their bytes, as they are.
-/
import Derived.Test.YtfpghpicknnfgaaFil1
import Derived.Test.YtfpghpicknnfgaaVals
import Derived.Test.YtfpghpicknnfgaaLit
namespace Go.Proofs.Ytfpghpicknnfgaa
open Go.RowKit

theorem cnds_length (l : List Cnd) : (cnds l).length = l.length * 7 := by
  induction l with
  | nil => rfl
  | cons a l ih =>
    show (a.cells ++ cnds l).length = _
    rw [List.length_append, ih, Cnd.cells_length, List.length_cons]
    omega
theorem cnds_append (l m : List Cnd) : cnds (l ++ m) = cnds l ++ cnds m := by unfold cnds; simp
theorem cnds_cons (a : Cnd) (l : List Cnd) : cnds (a :: l) = a.cells ++ cnds l := by unfold cnds; simp
theorem cnds_one (l : List Cnd) : ∀ u ∈ cnds l, u.oneCell' = true := fun u hu => by
  unfold cnds at hu
  obtain ⟨x, -, hx⟩ := List.mem_flatMap.1 hu
  exact List.all_eq_true.1 (show x.cells.all (·.oneCell') = true from rfl) u hx

/-- One condition's value, of a row of our own, written anew. -/
theorem own_putc {w : World} {v : Value} {l m : List Cnd} {x : Cnd} (h : OwnSl w 67 7 v (l ++ x :: m).length (cnds (l ++ x :: m))) : ∃ g off cap cur, v = .slice (some ⟨g, off, none⟩) (l ++ x :: m).length cap ∧
    w.heap[g]? = some (.cells cur 67 (0, 0)) ∧ off + l.length * 7 + 7 ≤ cur.size ∧ (l ++ x :: m).length ≤ cap ∧
    OwnSl (w.setRow g (cur.toList.take (off + l.length * 7 + 2) ++ x.v.canon.cells ++ cur.toList.drop (off + l.length * 7 + 2 + x.v.canon.cells.length)).toArray) 67 7 v (l ++ x.canon :: m).length (cnds (l ++ x.canon :: m)) := by
  rcases h.2 with ⟨-, h0⟩ | ⟨g, off, cap, cur, hv, hg, hn, hc, hs, ht⟩
  · simp at h0
  have hlen : (l ++ x :: m).length = l.length + 1 + m.length := by simp; omega
  have hlen' : (l ++ x.canon :: m).length = l.length + 1 + m.length := by simp; omega
  have hsz : off + (l.length + 1 + m.length) * 7 ≤ cur.size := by
    have : (l ++ x :: m).length * 7 ≤ cap * 7 := Nat.mul_le_mul_right _ hn
    omega
  refine ⟨g, off, cap, cur, hv, hg, by omega, hn, ⟨by rw [cnds_length], .inr ⟨g, off, cap, _, by rw [hv, hlen, hlen'], setRow_heap w g cur _ _ _ hg, by omega, hc, ?_, ?_⟩⟩⟩
  · simp only [List.size_toArray, List.length_append, List.length_take, List.length_drop, Array.length_toList, V.cells_length]
    omega
  · rw [hlen] at ht
    rw [hlen']
    have hq := list_put (L := cur.toList) (A := cnds l ++ [.string x.name, .int .i64 x.op]) (X := x.v.cells) (B := cnds m) (C := x.v.canon.cells) (off := off) (n := (l.length + 1 + m.length) * 7) (by rw [Array.length_toList]; omega)
      (by rw [ht, cnds_append, cnds_cons]; simp [Cnd.cells]) rfl (by rw [List.length_append, cnds_length, cnds_length, V.cells_length]; simp; omega)
    rw [List.length_append, cnds_length, show ([.string x.name, .int .i64 x.op] : List Value).length = 2 from rfl, ← Nat.add_assoc] at hq
    rw [cnds_append, cnds_cons]
    refine hq.trans ?_
    simp [Cnd.cells, Cnd.canon]

theorem canonB_canon (x : Nat) : canonB (canonB x) = canonB x := by
  cases h : fEq (canonB x) (canonB x) with
  | true => exact canon_self h
  | false =>
    have hn : canonB x = nanB := by
      unfold canonB at h ⊢
      split at h
      · rename_i h1
        split at h
        · rw [fEq_0] at h; cases h
        · rw [h1] at h; cases h
      · rename_i h1
        rw [if_neg h1]
    rw [hn]
    unfold canonB
    rw [if_neg (by decide +kernel)]
theorem V.canon_canon (v : V) : v.canon.canon = v.canon := by
  unfold V.canon
  split
  · rfl
  · split
    · simp [canonB_canon]
    · split
      · rfl
      · split
        · rfl
        · rfl
theorem Cnd.canon_canon (c : Cnd) : c.canon.canon = c.canon := by
  show (⟨c.name, c.op, c.v.canon.canon⟩ : Cnd) = ⟨c.name, c.op, c.v.canon⟩
  rw [V.canon_canon]
theorem V.canon_right {v : V} (h0 : 0 ≤ v.kind) (h3 : v.kind ≤ 3) (ht : v.text.size ≤ 40) : v.canon.right = true := by
  unfold V.canon
  split
  · rfl
  · split
    · rfl
    · split
      · simp [V.right, ht]
      · split
        · rfl
        · exfalso; omega
theorem V.canon_int {v : V} (h : -9223372036854775808 ≤ v.int ∧ v.int ≤ 9223372036854775807) : -9223372036854775808 ≤ v.canon.int ∧ v.canon.int ≤ 9223372036854775807 := by
  unfold V.canon
  split
  · exact h
  · split
    · simp [V.zero]
    · split
      · simp [V.zero]
      · split
        · simp [V.zero]
        · simp [V.zero]

/-- May its bytes tell it? -/
def Cnd.few (c : Cnd) : Prop := c.name.size ≤ 255 ∧ c.v.text.size ≤ 40 ∧ 0 ≤ c.op ∧ c.op ≤ 255 ∧ 0 ≤ c.v.kind ∧ c.v.kind ≤ 3
theorem Cnd.few_tells {c : Cnd} (h : c.few) (hi : -9223372036854775808 ≤ c.v.int ∧ c.v.int ≤ 9223372036854775807) (hn : c.v.num < 2 ^ 64) : c.canon.tells :=
  ⟨h.1, ⟨h.2.2.1, h.2.2.2.1⟩, ⟨V.canon_right h.2.2.2.2.1 h.2.2.2.2.2 h.2.1, V.canon_int hi, canon_num hn⟩⟩
theorem Cnd.tells_fit {c : Cnd} (h : c.tells) : c.fit := ⟨h.name, by
  have := h.v.right
  unfold V.right at this
  simp only [Bool.and_eq_true, decide_eq_true_eq] at this
  omega, h.v.num⟩

theorem filBytes_length (sc : ByteArray) (l : List Cnd) (hs : sc.size ≤ 255) (hl : l.length ≤ 20) (h : ∀ c ∈ l, c.fit) : (filBytes sc l).length ≤ 13000 := by
  have hb : ∀ m : List Cnd, (∀ c ∈ m, c.fit) → (m.flatMap cndBytes).length ≤ 600 * m.length := by
    intro m
    induction m with
    | nil => intro _; simp
    | cons y m ih =>
      intro hy
      rw [List.flatMap_cons, List.length_append, List.length_cons]
      have h1 := hy y (by simp)
      have := cndBytes_length y h1.1 h1.2.1
      have := ih (fun z hz => hy z (by simp [hz]))
      omega
  have h1 := hb l h
  have := Nat.mul_le_mul_left 600 hl
  unfold filBytes
  simp only [List.length_append, List.length_cons, List.length_nil, txt_length]
  omega

set_option maxRecDepth 20000 in
set_option maxHeartbeats 8000000 in
theorem filters_walk (sc : ByteArray) (av : Value) (l : List Cnd) (w : World) (hv : RdSl w 7 av l.length (cnds l)) (hll : l.length ≤ maxLen) (hsc : sc.size ≤ maxLen)
    (hf : ∀ x ∈ l, x.name.size ≤ maxLen ∧ x.v.text.size ≤ maxLen ∧ (-9223372036854775808 ≤ x.v.int ∧ x.v.int ≤ 9223372036854775807) ∧ x.v.num < 2 ^ 64) :
    Calls Try.prog 8 #[.agg #[.string sc, av]] w fun e w' => e = .returned (.bool true) ∧ Mod (fun _ => False) w w' := by
  obtain ⟨a, cap, rfl⟩ : ∃ a c, av = .slice a l.length c := by obtain ⟨-, a, c, h, -⟩ := hv; exact ⟨a, c, h⟩
  obtain ⟨wa, hwa⟩ : ∃ wa : World, w.alloc (.cells #[.string sc, .slice a l.length cap] 65) = wa := ⟨_, rfl⟩
  have hmwa : Mod (fun _ => False) w wa := hwa ▸ (Mod.refl (fun _ => False) w).alloc _
  have hgwa := heap_alloc_new w (.cells #[.string sc, .slice a l.length cap] 65)
  rw [hwa] at hgwa
  have hzwa : wa.heap.size = w.heap.size + 1 := by rw [← hwa]; simp
  have hll' : (l.length : Int) ≤ 9223372036854775807 := by simp only [maxLen] at hll; omega
  have hsc' : (sc.size : Int) ≤ 9223372036854775807 := by simp only [maxLen] at hsc; omega
  have hft := fit_at wa
  have Hwa := Lib.hid hwa
  have Hft := Lib.hid hft
  have Hv := Lib.hid hv
  have Hf := Lib.hid hf
  have Hmwa := Lib.hid hmwa
  have Hgwa := Lib.hid hgwa
  clear hft hv hf hmwa hgwa hwa hll hsc
  go_enter Try.func8, Try.ntmps8
  go_wp2_with fail
  rw [Hwa.out]
  refine Hft.out.mono ?_
  rintro e w1 ⟨rfl, hm1⟩
  have hg1 := hm1.heap Hgwa.out (fun h => h)
  have c0 : w1.cell? ⟨w.heap.size, 0, none⟩ = some (.string sc) := cell_of hg1 rfl
  have c1 : w1.cell? ⟨w.heap.size, 1, none⟩ = some (.slice a l.length cap) := cell_of hg1 rfl
  have hm01 : Mod (fun _ => False) w w1 := Hmwa.out.trans hm1 (fun _ _ h => h)
  have hs1 := hm1.size
  have hv1 : RdSl w1 7 (.slice a l.length cap) l.length (cnds l) := by
    obtain ⟨h1, a', c', h2, h3, h4, h5⟩ := Hv.out
    refine ⟨h1, a', c', h2, h3, h4, fun b hb => ?_⟩
    obtain ⟨g, off, h6, h7⟩ := h5 b hb
    exact ⟨g, off, h6, fun j u hu => hm01.cell (h7 j u hu) (fun h => h)⟩
  have Hg1 := Lib.hid hg1
  have Hm01 := Lib.hid hm01
  have Hv1 := Lib.hid hv1
  clear hg1 hm01 hv1 hm1 Hft
  by_cases hbx : l.length ≤ 20
  rotate_left
  · have hbx' : (20 : Int) < l.length := by omega
    go_wp2
    go_ret
    exact ⟨rfl, Hm01.out⟩
  have hbx' : (l.length : Int) ≤ 20 := by omega
  by_cases hbs : sc.size ≤ 255
  rotate_left
  · have hbs' : (255 : Int) < sc.size := by omega
    go_wp2
    go_ret
    exact ⟨rfl, Hm01.out⟩
  have hbs' : (sc.size : Int) ≤ 255 := by omega
  go_wp2_with (first | ((with_reducible refine wpList_append_lit (.const (.slice none 0 0)) (.tmp 24) 63 ?_); refine ⟨rfl, 67, 7, 72, conds_T, .slice none 0 0, 0, [], rfl, OwnSl.nil _ _ _, _, l.length, cnds l, rfl, Hv1.out, cnds_one l, by omega, by unfold maxLen; omega, ?_⟩; intro ad cap2 w2 hA; rw [Nat.zero_add] at *; have HAp := Lib.hid hA; have hg2 := hA.2.1.heap Hg1.out (fun h => by cases h); have k2 : w2.cell? ⟨w.heap.size, 1, none⟩ = some (.slice a l.length cap) := cell_of hg2 rfl; have f2 : w2.frozen? ⟨w.heap.size, 1, none⟩ = false := fr_of hg2; have Hg2 := Lib.hid hg2; have hkl2 : w.heap.size < w2.heap.size := (Array.getElem?_eq_some_iff.1 hg2).1; clear hA hg2) | fail)
  obtain ⟨wB, hwB⟩ : ∃ wB, w2.setCell ⟨w.heap.size, 1, none⟩ (.slice ad l.length cap2) = wB := ⟨_, rfl⟩
  rw [hwB]
  have hm2B : Mod (fun k => k = w.heap.size) w2 wB := hwB ▸ (Mod.refl (fun k => k = w.heap.size) w2).setCell (fun _ => rfl) _
  have hsB : wB.heap.size = w2.heap.size := by rw [← hwB]; simp
  have hm12 : Mod (fun _ => False) w1 w2 := HAp.out.2.1.mono (fun k _ hk => by cases hk)
  have hmB : Mod (fun _ => False) w wB := (Hm01.out.trans hm12 (fun _ _ h => h)).on hm2B (fun b hb => .inr (by omega))
  have hkB : wB.heap[w.heap.size]? = some (.cells #[.string sc, .slice ad l.length cap2] 65 (0, 0)) := hwB ▸ heap_set Hg2.out
  have hs12 := hm12.size
  have hblk : ∀ b, (Value.slice ad l.length cap2).ownBlock = some b → w1.heap.size ≤ b ∧ b < w2.heap.size := fun b hb => by
    refine ⟨?_, HAp.out.1.lt b hb⟩
    rcases HAp.out.2.2 with h | ⟨q, h, hq⟩
    · rw [h] at hb; cases hb
    · rw [h] at hb; cases hb; exact hq
  have hownB : OwnSl wB 67 7 (.slice ad l.length cap2) l.length (cnds l) := by
    have := HAp.out.1
    rw [List.nil_append] at this
    exact this.mod hm2B (fun b hb => by have := hblk b hb; omega)
  have kB : wB.cell? ⟨w.heap.size, 1, none⟩ = some (.slice ad l.length cap2) := cell_of hkB rfl
  have HmB := Lib.hid hmB
  have HkB := Lib.hid hkB
  have HownB := Lib.hid hownB
  have Hblk := Lib.hid hblk
  clear hmB hkB hownB hblk hm2B hm12 k2 f2 hwB c1
  go_wp2_with fail
  go_loopw [30] (fun i wr => ∃ j : Nat, i = .int .i64 j ∧ j ≤ l.length ∧ wr.heap[w.heap.size]? = some (.cells #[.string sc, .slice ad l.length cap2] 65 (0, 0)) ∧
      OwnSl wr 67 7 (.slice ad l.length cap2) l.length (cnds ((l.take j).map Cnd.canon ++ l.drop j)) ∧ Mod (fun _ => False) w wr ∧ (∀ x ∈ l.take j, x.few) ∧ wB.heap.size ≤ wr.heap.size) (fun i _ => l.length - (intOf i).toNat)
  case atStart => exact ⟨0, rfl, Nat.zero_le _, HkB.out, HownB.out, HmB.out, fun x hx => (by simp at hx), Nat.le_refl _⟩
  case round =>
    obtain ⟨j, rfl, hj, hkl, hown, hmw, hrt, hsz⟩ := hrel
    have Hkl := Lib.hid hkl
    have Hown := Lib.hid hown
    have Hmw := Lib.hid hmw
    have Hrt := Lib.hid hrt
    clear hkl hown hmw hrt
    by_cases hlt : j < l.length
    · have hlt' : (j : Int) < l.length := by omega
      obtain ⟨x, hxj⟩ : ∃ x, l[j]? = some x := ⟨_, List.getElem?_eq_getElem hlt⟩
      have hd : l.drop j = x :: l.drop (j + 1) := by
        rw [List.drop_eq_getElem_cons hlt]
        congr 1
        exact (List.getElem?_eq_some_iff.1 hxj).2
      have hl1 : ((l.take j).map Cnd.canon).length = j := by rw [List.length_map, List.length_take]; omega
      obtain ⟨L1, hL1⟩ : ∃ L1, (l.take j).map Cnd.canon = L1 := ⟨_, rfl⟩
      obtain ⟨L2, hL2⟩ : ∃ L2, l.drop (j + 1) = L2 := ⟨_, rfl⟩
      have hown := Hown.out
      rw [hL1] at hl1 hown
      rw [hd, hL2] at hown
      have hlen : (L1 ++ x :: L2).length = l.length := by rw [List.length_append, hl1, List.length_cons, ← hL2, List.length_drop]; omega
      obtain ⟨g, off, hab⟩ : ∃ g off, ad = some ⟨g, off, none⟩ := by
        rcases hown.2 with ⟨-, h0⟩ | ⟨g, off, c, cur, h1, -⟩
        · omega
        · cases h1; exact ⟨g, off, rfl⟩
      subst hab
      have hcell : CellsAt wr g (off + j * 7) x.cells := by
        obtain ⟨-, a', c', h1, -, -, h4⟩ := hown.rd
        cases h1
        obtain ⟨g', off', h5, h6⟩ := h4 _ rfl
        cases h5
        intro i u hu
        have := h6 (7 * j + i) u (cnds_at _ (by rw [List.getElem?_append_right (by omega), hl1, Nat.sub_self]; rfl) hu)
        rw [show off + j * 7 + i = off + (7 * j + i) by omega]
        exact this
      have c0 : wr.cell? ⟨g, off + j * 7, none⟩ = some (.string x.name) := hcell 0 _ rfl
      have c1 : wr.cell? ⟨g, off + j * 7 + 1, none⟩ = some (.int .i64 x.op) := hcell 1 _ rfl
      have c2 : wr.cell? ⟨g, off + j * 7 + 2, none⟩ = some (.int .i64 x.v.kind) := hcell 2 _ rfl
      have c3 : wr.cell? ⟨g, off + j * 7 + 3, none⟩ = some (.int .i64 x.v.int) := hcell 3 _ rfl
      have c4 : wr.cell? ⟨g, off + j * 7 + 4, none⟩ = some (.float .f64 x.v.num) := hcell 4 _ rfl
      have c5 : wr.cell? ⟨g, off + j * 7 + 5, none⟩ = some (.string x.v.text) := hcell 5 _ rfl
      have c6 : wr.cell? ⟨g, off + j * 7 + 6, none⟩ = some (.bool x.v.yes) := hcell 6 _ rfl
      have hcap : (l.length : Int) ≤ cap2 := by
        obtain ⟨a', c', h1, h2⟩ := hown.shape
        cases h1
        omega
      obtain ⟨wz, hwz⟩ : ∃ wz : World, wr.alloc (.cells x.cells.toArray 67) = wz := ⟨_, rfl⟩
      have hmwz : Mod (fun _ => False) wr wz := hwz ▸ (Mod.refl (fun _ => False) wr).alloc _
      have hgwz := heap_alloc_new wr (.cells x.cells.toArray 67)
      rw [hwz] at hgwz
      have hzwz : wz.heap.size = wr.heap.size + 1 := by rw [← hwz]; simp
      have hfx := Hf.out x (List.mem_of_getElem? hxj)
      have hx1 : (x.name.size : Int) ≤ 9223372036854775807 := by have := hfx.1; simp only [maxLen] at this; omega
      have hx2 : (x.v.text.size : Int) ≤ 9223372036854775807 := by have := hfx.2.1; simp only [maxLen] at this; omega
      have Hown2 := Lib.hid hown
      have Hlen := Lib.hid hlen
      have HL1 := Lib.hid hL1
      have HL2 := Lib.hid hL2
      have Hd := Lib.hid hd
      have Hxj := Lib.hid hxj
      have Hfx := Lib.hid hfx
      have Hwz := Lib.hid hwz
      have Hmwz := Lib.hid hmwz
      clear hlen hL1 hL2 hd hxj hfx hwz hmwz hown hcell
      have z0 : wz.cell? ⟨wr.heap.size, 0, none⟩ = some (.string x.name) := cell_of hgwz rfl
      have z1 : wz.cell? ⟨wr.heap.size, 1, none⟩ = some (.int .i64 x.op) := cell_of hgwz rfl
      have z2 : wz.cell? ⟨wr.heap.size, 2, none⟩ = some (.int .i64 x.v.kind) := cell_of hgwz rfl
      have z5 : wz.cell? ⟨wr.heap.size, 5, none⟩ = some (.string x.v.text) := cell_of hgwz rfl
      have Hgwz := Lib.hid hgwz
      clear hgwz
      by_cases ht0 : x.name.size ≤ 255
      rotate_left
      · have hn : (255 : Int) < x.name.size := by omega
        clear ht0
        go_wp2_with (first | ((with_reducible refine wpList_store_lit 67 (.tmp 4) (.tmp 34) ?_); refine ⟨rfl, x.cells, rfl, rfl, by kernel_rfl, rfl, ?_⟩; rw [Hwz.out]) | fail)
        go_ret
        exact ⟨rfl, Hmw.out.trans Hmwz.out (fun _ _ h => h)⟩
      have hp0 : (x.name.size : Int) ≤ 255 := by omega
      by_cases ht1 : x.v.text.size ≤ 40
      rotate_left
      · have hn : (40 : Int) < x.v.text.size := by omega
        clear ht1
        go_wp2_with (first | ((with_reducible refine wpList_store_lit 67 (.tmp 4) (.tmp 34) ?_); refine ⟨rfl, x.cells, rfl, rfl, by kernel_rfl, rfl, ?_⟩; rw [Hwz.out]) | fail)
        go_ret
        exact ⟨rfl, Hmw.out.trans Hmwz.out (fun _ _ h => h)⟩
      have hp1 : (x.v.text.size : Int) ≤ 40 := by omega
      by_cases ht2 : 0 ≤ x.op
      rotate_left
      · have hn : x.op < 0 := by omega
        clear ht2
        go_wp2_with (first | ((with_reducible refine wpList_store_lit 67 (.tmp 4) (.tmp 34) ?_); refine ⟨rfl, x.cells, rfl, rfl, by kernel_rfl, rfl, ?_⟩; rw [Hwz.out]) | fail)
        go_ret
        exact ⟨rfl, Hmw.out.trans Hmwz.out (fun _ _ h => h)⟩
      by_cases ht3 : x.op ≤ 255
      rotate_left
      · have hn : 255 < x.op := by omega
        clear ht3
        go_wp2_with (first | ((with_reducible refine wpList_store_lit 67 (.tmp 4) (.tmp 34) ?_); refine ⟨rfl, x.cells, rfl, rfl, by kernel_rfl, rfl, ?_⟩; rw [Hwz.out]) | fail)
        go_ret
        exact ⟨rfl, Hmw.out.trans Hmwz.out (fun _ _ h => h)⟩
      by_cases ht4 : 0 ≤ x.v.kind
      rotate_left
      · have hn : x.v.kind < 0 := by omega
        clear ht4
        go_wp2_with (first | ((with_reducible refine wpList_store_lit 67 (.tmp 4) (.tmp 34) ?_); refine ⟨rfl, x.cells, rfl, rfl, by kernel_rfl, rfl, ?_⟩; rw [Hwz.out]) | fail)
        go_ret
        exact ⟨rfl, Hmw.out.trans Hmwz.out (fun _ _ h => h)⟩
      by_cases ht5 : x.v.kind ≤ 3
      rotate_left
      · have hn : 3 < x.v.kind := by omega
        clear ht5
        go_wp2_with (first | ((with_reducible refine wpList_store_lit 67 (.tmp 4) (.tmp 34) ?_); refine ⟨rfl, x.cells, rfl, rfl, by kernel_rfl, rfl, ?_⟩; rw [Hwz.out]) | fail)
        go_ret
        exact ⟨rfl, Hmw.out.trans Hmwz.out (fun _ _ h => h)⟩
      go_wp2_with (first | ((with_reducible refine wpList_store_lit 67 (.tmp 4) (.tmp 34) ?_); refine ⟨rfl, x.cells, rfl, rfl, by kernel_rfl, rfl, ?_⟩; rw [Hwz.out]) | fail)
      have hS : (fun y : World => y.cell? ⟨w.heap.size, 1, none⟩ = some (.slice (some ⟨g, off, none⟩) l.length cap2) ∧ AllCells y wr.heap.size 2 5 ∧ cellsOf y wr.heap.size 2 5 = x.v.cells.toArray) wz.drew :=
        ⟨cell_of (heap_drew_ (Hmwz.out.heap Hkl.out (fun h => h))) rfl, (cells_from2 (heap_drew_ Hgwz.out)).all rfl, (cells_from2 (heap_drew_ Hgwz.out)).is rfl⟩
      refine wp_region_script [.rd 0, .rd 1, .rd 2, .rd 3, .rd 4, .go 5, .go 6, .go 7, .go 8] [0, 1, 2, 3, 4, 5] (fun y : World => y.cell? ⟨w.heap.size, 1, none⟩ = some (.slice (some ⟨g, off, none⟩) l.length cap2) ∧ AllCells y wr.heap.size 2 5 ∧ cellsOf y wr.heap.size 2 5 = x.v.cells.toArray) (by kernel_rfl) (by kernel_rfl) (fun _ _ d _ _ h => (by cases d <;> exact h)) ?_
      refine walk_rd rfl ?_ (fun _ => hS) ?_ (fun w0 h0 => ?_) (fun K hK => ?_)
      · try simp only [List.getElem_toArray, List.getElem_cons_succ, List.getElem_cons_zero]
        go_simp; done
      rotate_left
      · try simp only [List.getElem_toArray, List.getElem_cons_succ, List.getElem_cons_zero]
        first
          | (obtain ⟨h1, h2, h3⟩ := h0 rfl; clear h0; go_simp; with_reducible rfl)
          | (clear h0; go_simp; with_reducible rfl)
      try simp only [List.getElem_toArray, List.getElem_cons_succ, List.getElem_cons_zero]
      go_simp; refine hK _ ?_; clear hK K
      refine walk_rd rfl ?_ (fun _ => hS) ?_ (fun w0 h0 => ?_) (fun K hK => ?_)
      · try simp only [List.getElem_toArray, List.getElem_cons_succ, List.getElem_cons_zero]
        go_simp; done
      rotate_left
      · try simp only [List.getElem_toArray, List.getElem_cons_succ, List.getElem_cons_zero]
        first
          | (obtain ⟨h1, h2, h3⟩ := h0 rfl; clear h0; go_simp; with_reducible rfl)
          | (clear h0; go_simp; with_reducible rfl)
      try simp only [List.getElem_toArray, List.getElem_cons_succ, List.getElem_cons_zero]
      go_simp; refine hK _ ?_; clear hK K
      refine walk_rd rfl ?_ (fun _ => hS) ?_ (fun w0 h0 => ?_) (fun K hK => ?_)
      · try simp only [List.getElem_toArray, List.getElem_cons_succ, List.getElem_cons_zero]
        go_simp; done
      rotate_left
      · try simp only [List.getElem_toArray, List.getElem_cons_succ, List.getElem_cons_zero]
        first
          | (obtain ⟨h1, h2, h3⟩ := h0 rfl; clear h0; go_simp; with_reducible rfl)
          | (clear h0; go_simp; with_reducible rfl)
      try simp only [List.getElem_toArray, List.getElem_cons_succ, List.getElem_cons_zero]
      go_simp; refine hK _ ?_; clear hK K
      refine walk_rd rfl ?_ (fun _ => hS) ?_ (fun w0 h0 => ?_) (fun K hK => ?_)
      · try simp only [List.getElem_toArray, List.getElem_cons_succ, List.getElem_cons_zero]
        go_simp; done
      rotate_left
      · try simp only [List.getElem_toArray, List.getElem_cons_succ, List.getElem_cons_zero]
        first
          | (obtain ⟨h1, h2, h3⟩ := h0 rfl; clear h0; go_simp; with_reducible rfl)
          | (clear h0; go_simp; with_reducible rfl)
      try simp only [List.getElem_toArray, List.getElem_cons_succ, List.getElem_cons_zero]
      go_simp; refine hK _ ?_; clear hK K
      refine walk_rd rfl ?_ (fun _ => hS) ?_ (fun w0 h0 => ?_) (fun K hK => ?_)
      · try simp only [List.getElem_toArray, List.getElem_cons_succ, List.getElem_cons_zero]
        go_simp; done
      rotate_left
      · try simp only [List.getElem_toArray, List.getElem_cons_succ, List.getElem_cons_zero]
        first
          | (obtain ⟨h1, h2, h3⟩ := h0 rfl; clear h0; go_simp; with_reducible rfl)
          | (clear h0; go_simp; with_reducible rfl)
      try simp only [List.getElem_toArray, List.getElem_cons_succ, List.getElem_cons_zero]
      go_simp; refine hK _ ?_; clear hK K
      refine walk_one (go_yes rfl ?_ (fun K hK => ?_))
      · try simp only [List.getElem_toArray, List.getElem_cons_succ, List.getElem_cons_zero]
        go_simp; done
      go_wp2_with fail
      refine (value_canon x.v wz.drew).mono ?_
      rintro e w4 ⟨rfl, hm4⟩
      have hmr4 := (Hmwz.out.drew).trans hm4 (fun _ _ h => h)
      have hkl4 := hmr4.heap Hkl.out (fun h => h)
      have hgz4 := hm4.heap (heap_drew_ Hgwz.out) (fun h => h)
      refine hK _ _ (fun _ _ => ⟨cell_of hkl4 rfl, (cells_from2 hgz4).all rfl, (cells_from2 hgz4).is rfl⟩) ?_
      clear hK K hS
      have hown4 := Hown2.out.mod hmr4 (fun _ _ h => h)
      obtain ⟨gq, offq, capq, cur, hq1, hq2, hq3, hq4, hq5⟩ := own_putc (l := L1) (m := L2) (x := x) (by rw [Hlen.out]; exact hown4)
      rw [Hlen.out] at hq1 hq4
      cases hq1
      rw [hl1] at hq3 hq5
      refine walk_one (go_yes rfl ?_ (fun K hK => ?_))
      · try simp only [List.getElem_toArray, List.getElem_cons_succ, List.getElem_cons_zero]
        go_simp; done
      try simp only [List.getElem_toArray, List.getElem_cons_succ, List.getElem_cons_zero]
      go_simp
      refine hK _ _ (fun h => absurd h (by decide)) ?_
      clear hK K
      refine walk_one (go_yes rfl ?_ (fun K hK => ?_))
      · try simp only [List.getElem_toArray, List.getElem_cons_succ, List.getElem_cons_zero]
        go_simp; done
      try simp only [List.getElem_toArray, List.getElem_cons_succ, List.getElem_cons_zero]
      go_simp
      refine hK _ _ (fun h => absurd h (by decide)) ?_
      clear hK K
      refine walk_one (go_yes rfl ?_ (fun K hK => ?_))
      · try simp only [List.getElem_toArray, List.getElem_cons_succ, List.getElem_cons_zero]
        go_simp; done
      try simp only [List.getElem_toArray, List.getElem_cons_succ, List.getElem_cons_zero]
      refine wp_store_at 55 (.tmp 75) (.tmp 73) rfl g (off + j * 7 + 2) rfl cur 67 hq2 x.v.canon.cells rfl (by rw [V.cells_length]; omega) (by kernel_rfl) (fun u hu => List.all_eq_true.1 (show x.v.canon.cells.all (·.oneCell') = true from rfl) u hu) ?_
      have hlen2 : (L1 ++ x.canon :: L2).length = l.length := by rw [← Hlen.out]; simp
      rw [hlen2] at hq5
      obtain ⟨w5, hw5⟩ : ∃ w5, w4.setRow g (cur.toList.take (off + j * 7 + 2) ++ x.v.canon.cells ++ cur.toList.drop (off + j * 7 + 2 + x.v.canon.cells.length)).toArray = w5 := ⟨_, rfl⟩
      have hm45 : Mod (fun k => k = g) w4 w5 := hw5 ▸ (Mod.refl (fun k => k = g) w4).setRow (fun _ => rfl) _
      rw [hw5] at hq5 ⊢
      have hgb := Hblk.out g rfl
      have hm05 : Mod (fun _ => False) w w5 := (Hmw.out.trans hmr4 (fun _ _ h => h)).on hm45 (fun b hb => .inr (by omega))
      have hmr5 : Mod (fun k => k = g) wr w5 := (hmr4.mono (fun _ _ h => h.elim)).trans hm45 (fun _ _ h => h)
      have hkl5 := hm45.heap hkl4 (by omega)
      have hsz5 : wB.heap.size ≤ w5.heap.size := Nat.le_trans hsz hmr5.size
      have hmap : (l.take (j + 1)).map Cnd.canon ++ l.drop (j + 1) = L1 ++ x.canon :: L2 := by
        rw [List.take_add_one, Hxj.out, List.map_append, HL1.out, HL2.out]
        simp
      rw [← hmap] at hq5
      have hrt5 : ∀ y ∈ l.take (j + 1), y.few := fun y hy => by
        rw [List.take_add_one, Hxj.out] at hy
        rcases List.mem_append.1 hy with hy | hy
        · exact Hrt.out y hy
        · have : y = x := by simpa using hy
          rw [this]
          exact ⟨ht0, ht1, ht2, ht3, ht4, ht5⟩
      refine hK _ _ (fun h => absurd h (by decide)) ?_
      clear hK K
      refine walk_nil ?_
      have Hm05 := Lib.hid hm05
      have Hkl5 := Lib.hid hkl5
      have Hsz5 := Lib.hid hsz5
      have Hq5 := Lib.hid hq5
      have Hrt5 := Lib.hid hrt5
      clear hm05 hkl5 hsz5 hq5 hrt5 hmr5 hm45 hkl4 hgz4 hown4 hq2 hq3 hq4 hm4 hmr4 hw5 hmap hlen2
      go_wp2_with fail
      go_roundw
      all_goals first
        | exact ⟨j + 1, by go_num, hlt, Hkl5.out, Hq5.out, Hm05.out, Hrt5.out, Hsz5.out⟩
        | (simp [intOf]; omega)
    · obtain rfl : j = l.length := by omega
      have hown := Hown.out
      have hrt := Hrt.out
      rw [List.take_length] at hown hrt
      rw [List.drop_length, List.append_nil] at hown
      obtain ⟨M, hM⟩ : ∃ M, l.map Cnd.canon = M := ⟨_, rfl⟩
      have hMl : M.length = l.length := by rw [← hM]; simp
      rw [hM] at hown
      have htell : ∀ c ∈ M, c.tells := fun c hc => by
        rw [← hM] at hc
        obtain ⟨x, hx, rfl⟩ := List.mem_map.1 hc
        have := Hf.out x hx
        exact Cnd.few_tells (hrt x hx) this.2.2.1 this.2.2.2
      have hMc : M.map Cnd.canon = M := by
        rw [← hM, List.map_map]
        exact List.map_congr_left (fun x _ => Cnd.canon_canon x)
      have hTBl := filBytes_length sc M hbs (by omega) (fun c hc => Cnd.tells_fit (htell c hc))
      have hrf := readF_fwd sc M [] hbs (by omega) htell
      rw [List.append_nil, hMc] at hrf
      obtain ⟨TB, hTB⟩ : ∃ TB, filBytes sc M = TB := ⟨_, rfl⟩
      rw [hTB] at hTBl hrf
      rw [← hMl] at hown
      obtain ⟨wC, hwC⟩ : ∃ wC : World, wr.alloc (.cells #[.slice none 0 0] 34) = wC := ⟨_, rfl⟩
      have hmwC : Mod (fun _ => False) wr wC := hwC ▸ (Mod.refl (fun _ => False) wr).alloc _
      have hgwC := heap_alloc_new wr (.cells #[.slice none 0 0] 34)
      rw [hwC] at hgwC
      have hzwC : wC.heap.size = wr.heap.size + 1 := by rw [← hwC]; simp
      have hblC : wr.heap.size < wC.heap.size := by omega
      have hkC := hmwC.heap Hkl.out (fun h => h)
      have hownC := hown.mod hmwC (fun _ _ h => h)
      have hwtC : Wtr wC wr.heap.size (.slice none 0 0) [] := ⟨hgwC, OwnSl.nil _ _ _⟩
      have hblt : ∀ b, (Value.slice ad M.length cap2).ownBlock = some b → b < wr.heap.size := hown.lt
      have hwf := wr_filter wC wr.heap.size (.slice none 0 0) [] hwtC (by simp) sc (by omega) (.slice ad M.length cap2) M hownC.rd (by omega) (fun c hc => Cnd.tells_fit (htell c hc)) (fun b hb => ⟨by have := hblt b hb; omega, fun h => by cases h⟩)
      rw [List.nil_append, hTB] at hwf
      have C0 : wr.cell? ⟨w.heap.size, 0, none⟩ = some (.string sc) := cell_of Hkl.out rfl
      have C1 : wr.cell? ⟨w.heap.size, 1, none⟩ = some (.slice ad M.length cap2) := by rw [hMl]; exact cell_of Hkl.out rfl
      have hB0 : w.heap.size < wr.heap.size := by omega
      have hmC : Mod (fun _ => False) w wC := Hmw.out.trans hmwC (fun _ _ h => h)
      have HwC := Lib.hid hwC
      have HMl := Lib.hid hMl
      have Htell := Lib.hid htell
      have HTBl := Lib.hid hTBl
      have Hrf := Lib.hid hrf
      have HTB := Lib.hid hTB
      have Hblt := Lib.hid hblt
      have HkC := Lib.hid hkC
      have HownC := Lib.hid hownC
      have Hwf := Lib.hid hwf
      have HmC := Lib.hid hmC
      have HgwC := Lib.hid hgwC
      clear hMl htell hTBl hrf hTB hblt hkC hownC hwf hmC hgwC hown hrt hM hMc hwtC hmwC hwC
      go_wp2_with fail
      rw [HwC.out]
      refine Hwf.out.mono ?_
      rintro e w5 ⟨rfl, v5, hwt5, hwr5⟩
      have hgn5 : ∀ b, b < wr.heap.size → ¬ (b = wr.heap.size ∨ inBlock (Value.slice none 0 0) b) := fun b hb hk => by
        rcases hk with hk | hk
        · omega
        · cases hk
      have hk5 := hwr5.mod.heap HkC.out (hgn5 _ hB0)
      have hown5 := HownC.out.mod hwr5.mod (fun b hb => hgn5 b (Hblt.out b hb))
      have hm5 : Mod (fun _ => False) w w5 := HmC.out.on hwr5.mod (fun b hb => by
        rcases hb with hb | hb
        · exact .inr (by omega)
        · cases hb)
      have hs5 := hwr5.mod.size
      obtain ⟨w6, hw6⟩ : ∃ w6 : World, w5.alloc (.cells #[.string ⟨#[]⟩, .slice none 0 0] 65) = w6 := ⟨_, rfl⟩
      have hmw6 : Mod (fun _ => False) w5 w6 := hw6 ▸ (Mod.refl (fun _ => False) w5).alloc _
      have hgw6 := heap_alloc_new w5 (.cells #[.string ⟨#[]⟩, .slice none 0 0] 65)
      rw [hw6] at hgw6
      have hzw6 : w6.heap.size = w5.heap.size + 1 := by rw [← hw6]; simp
      have hk6 := hmw6.heap hk5 (fun h => h)
      have hown6 := hown5.mod hmw6 (fun _ _ h => h)
      have hwt6 := hwt5.same hmw6
      have hm6 : Mod (fun _ => False) w w6 := hm5.trans hmw6 (fun _ _ h => h)
      have hby := wr_bytes w6 wr.heap.size v5 TB hwt6 (by have := HTBl.out; omega)
      have Hw6 := Lib.hid hw6
      have Hk6 := Lib.hid hk6
      have Hown6 := Lib.hid hown6
      have Hwt6 := Lib.hid hwt6
      have Hm6 := Lib.hid hm6
      have Hby := Lib.hid hby
      have Hgw6 := Lib.hid hgw6
      clear hk6 hown6 hwt6 hm6 hby hgw6 hw6 hgn5 hk5 hown5 hm5 hwr5 hwt5 hmw6 C0 C1
      go_wp2_with fail
      rw [Hw6.out]
      refine Hby.out.mono ?_
      rintro e w7 ⟨v7, rfl, hown7b, hfr7, hm7⟩
      obtain ⟨G, hbG, hGl, hGor⟩ := own_bytes0 hown7b (B := w6.heap.size) (p := wr.heap.size) hfr7 (by have := hm7.size; omega)
      have hk7 := hm7.heap Hk6.out (fun h => h)
      have hg7 := hm7.heap Hgw6.out (fun h => h)
      have hown7 := Hown6.out.mod hm7 (fun _ _ h => h)
      have hm07 : Mod (fun _ => False) w w7 := Hm6.out.trans hm7 (fun _ _ h => h)
      have hs7 := hm7.size
      have hke7 : w5.heap.size < w7.heap.size := by omega
      have hrd := read_at v7 G TB 35 #[.pointer (some ⟨w5.heap.size, 0, none⟩)] w7 hbG hGl (fun args w => by simp [go_sem])
        (fun k ok w2' => ok = true ∧ k ≠ w5.heap.size ∧ Mod (fun j => j = w5.heap.size) w7 w2' ∧ ∃ av', w2'.heap[w5.heap.size]? = some (.cells #[.string sc, av'] 65 (0, 0)) ∧ OwnSl w2' 67 7 av' M.length (cnds M) ∧ (∀ b, av'.ownBlock = some b → b ≠ k))
        (fun r k w2' hm2 hk hr hkr hklt hrd hkh => (filters1 w2' r G w5.heap.size TB hrd (Nat.lt_of_lt_of_le hGl hm2.size) (hm2.heap hg7 (fun h => h)) (by omega) (by omega)).mono fun e w3 h => by
          rcases h with ⟨h1, -⟩ | ⟨sc', l', t', av', h1, -, h2, h3, h4, h5, h6, h7⟩
          · rw [Hrf.out] at h1; cases h1
          · rw [Hrf.out] at h1
            cases h1
            refine ⟨h7.heap hkh (by omega), .inr ⟨[], h2, h6, rfl, by omega, (hm2.mono (fun _ _ h => h.elim)).on h7 (fun b hb => ?_), av', h3, h4, fun b hb => ?_⟩⟩
            · rcases hb with hb | hb
              · exact .inr (by omega)
              · exact .inl hb
            · have := h5 b hb; omega)
      have Hrd := Lib.hid hrd
      have Hk7 := Lib.hid hk7
      have Hown7 := Lib.hid hown7
      have Hm07 := Lib.hid hm07
      clear hrd hk7 hown7 hm07 hown7b hfr7 hm7 hg7 hbG Hby
      go_wp2_with fail
      refine Hrd.out.mono ?_
      rintro e w8 ⟨ok, w7', k7, rfl, ⟨rfl, hkn, hm8, av8, hg8, hown8, hav8⟩, hk8, hm8'⟩
      have hk9 := hm8'.heap (hm8.heap Hk7.out (by omega)) (by have := Hm07.out.size; omega)
      have hg9 := hm8'.heap hg8 (by omega)
      have hownf := (Hown7.out.mod hm8 (fun b hb => by have := Hblt.out b hb; omega)).mod hm8' (fun b hb => by have := Hblt.out b hb; omega)
      have hownr := hown8.mod hm8' (fun b hb => hav8 b hb)
      have hm9 : Mod (fun _ => False) w w8 := (Hm07.out.on hm8 (fun b hb => .inr (by omega))).on hm8' (fun b hb => .inr (by have := Hm07.out.size; omega))
      obtain ⟨ar, cr, rfl, -⟩ := hownr.shape
      have D0 : w8.cell? ⟨w.heap.size, 0, none⟩ = some (.string sc) := cell_of hk9 rfl
      have D1 : w8.cell? ⟨w.heap.size, 1, none⟩ = some (.slice ad M.length cap2) := by rw [HMl.out]; exact cell_of hk9 rfl
      have E0 : w8.cell? ⟨w5.heap.size, 0, none⟩ = some (.string sc) := cell_of hg9 rfl
      have E1 : w8.cell? ⟨w5.heap.size, 1, none⟩ = some (.slice ar M.length cr) := cell_of hg9 rfl
      have Hk9 := Lib.hid hk9
      have Hg9 := Lib.hid hg9
      have Hownf := Lib.hid hownf
      have Hownr := Lib.hid hownr
      have Hm9 := Lib.hid hm9
      clear hk9 hg9 hownf hownr hm9 hkn hm8 hg8 hown8 hav8 hk8 hm8' Hrd
      go_wp2_with fail
      obtain ⟨wq, rfl⟩ : ∃ wo : World, wo = wr := ⟨_, rfl⟩
      go_loopw [103] (fun i wr => ∃ j : Nat, i = .int .i64 j ∧ j ≤ M.length ∧ Mod (fun _ => False) w8 wr) (fun i _ => M.length - (intOf i).toNat)
      case atStart => exact ⟨0, rfl, Nat.zero_le _, Mod.refl _ _⟩
      case round =>
        obtain ⟨j, rfl, hj, hmr⟩ := hrel
        by_cases hlt : j < M.length
        · have hM20 : (M.length : Int) ≤ 20 := by rw [HMl.out]; omega
          have hlt' : (j : Int) < M.length := by omega
          obtain ⟨x, hxj⟩ : ∃ x, M[j]? = some x := ⟨_, List.getElem?_eq_getElem hlt⟩
          have hx := (Htell.out x (List.mem_of_getElem? hxj)).v.num
          obtain ⟨g, off, rfl, hf⟩ : ∃ g off, ad = some ⟨g, off, none⟩ ∧ CellsAt wr g (off + j * 7) x.cells := by
            obtain ⟨-, a', c', h1, -, h3, h4⟩ := (Hownf.out.mod hmr (fun _ _ h => h)).rd
            cases h1
            cases ad with
            | none => have := Hownf.out.2; rcases this with ⟨-, h0⟩ | ⟨g, off, c, cur, h1, -⟩; · omega
                      · cases h1
            | some b =>
              obtain ⟨g', off', h5, h6⟩ := h4 _ rfl
              refine ⟨g', off', by rw [h5], fun i u hu => ?_⟩
              have := h6 (7 * j + i) u (cnds_at _ hxj hu)
              rw [show off' + j * 7 + i = off' + (7 * j + i) by omega]
              exact this
          obtain ⟨gr, offr, rfl, hr⟩ : ∃ g off, ar = some ⟨g, off, none⟩ ∧ CellsAt wr g (off + j * 7) x.cells := by
            obtain ⟨-, a', c', h1, -, h3, h4⟩ := (Hownr.out.mod hmr (fun _ _ h => h)).rd
            cases h1
            cases ar with
            | none => have := Hownr.out.2; rcases this with ⟨-, h0⟩ | ⟨g, off, c, cur, h1, -⟩; · omega
                      · cases h1
            | some b =>
              obtain ⟨g', off', h5, h6⟩ := h4 _ rfl
              refine ⟨g', off', by rw [h5], fun i u hu => ?_⟩
              have := h6 (7 * j + i) u (cnds_at _ hxj hu)
              rw [show off' + j * 7 + i = off' + (7 * j + i) by omega]
              exact this
          have hgE : wr.heap[w5.heap.size]? = _ := hmr.heap Hg9.out (fun h => h)
          have e1 : wr.cell? ⟨w5.heap.size, 1, none⟩ = some (.slice (some ⟨gr, offr, none⟩) M.length cr) := cell_of hgE rfl
          have he1 : w5.heap.size < wr.heap.size := (Array.getElem?_eq_some_iff.1 hgE).1
          have a0 : wr.cell? ⟨g, off + j * 7, none⟩ = some (.string x.name) := hf 0 _ rfl
          have a1 : wr.cell? ⟨g, off + j * 7 + 1, none⟩ = some (.int .i64 x.op) := hf 1 _ rfl
          have a2 : wr.cell? ⟨g, off + j * 7 + 2, none⟩ = some (.int .i64 x.v.kind) := hf 2 _ rfl
          have a3 : wr.cell? ⟨g, off + j * 7 + 3, none⟩ = some (.int .i64 x.v.int) := hf 3 _ rfl
          have a4 : wr.cell? ⟨g, off + j * 7 + 4, none⟩ = some (.float .f64 x.v.num) := hf 4 _ rfl
          have a5 : wr.cell? ⟨g, off + j * 7 + 5, none⟩ = some (.string x.v.text) := hf 5 _ rfl
          have a6 : wr.cell? ⟨g, off + j * 7 + 6, none⟩ = some (.bool x.v.yes) := hf 6 _ rfl
          obtain ⟨wz1, hwz1⟩ : ∃ wz1 : World, wr.alloc (.cells x.cells.toArray 67) = wz1 := ⟨_, rfl⟩
          have hmwz1 : Mod (fun _ => False) wr wz1 := hwz1 ▸ (Mod.refl (fun _ => False) wr).alloc _
          have hgwz1 := heap_alloc_new wr (.cells x.cells.toArray 67)
          rw [hwz1] at hgwz1
          have hzwz1 : wz1.heap.size = wr.heap.size + 1 := by rw [← hwz1]; simp
          obtain ⟨wz2, hwz2⟩ : ∃ wz2 : World, wz1.alloc (.cells x.cells.toArray 67) = wz2 := ⟨_, rfl⟩
          have hmwz2 : Mod (fun _ => False) wz1 wz2 := hwz2 ▸ (Mod.refl (fun _ => False) wz1).alloc _
          have hgwz2 := heap_alloc_new wz1 (.cells x.cells.toArray 67)
          rw [hwz2] at hgwz2
          have hzwz2 : wz2.heap.size = wz1.heap.size + 1 := by rw [← hwz2]; simp
          have b0 : wz1.cell? ⟨gr, offr + j * 7, none⟩ = some (.string x.name) := hmwz1.cell (hr 0 _ rfl) (fun h => h)
          have b1 : wz1.cell? ⟨gr, offr + j * 7 + 1, none⟩ = some (.int .i64 x.op) := hmwz1.cell (hr 1 _ rfl) (fun h => h)
          have b2 : wz1.cell? ⟨gr, offr + j * 7 + 2, none⟩ = some (.int .i64 x.v.kind) := hmwz1.cell (hr 2 _ rfl) (fun h => h)
          have b3 : wz1.cell? ⟨gr, offr + j * 7 + 3, none⟩ = some (.int .i64 x.v.int) := hmwz1.cell (hr 3 _ rfl) (fun h => h)
          have b4 : wz1.cell? ⟨gr, offr + j * 7 + 4, none⟩ = some (.float .f64 x.v.num) := hmwz1.cell (hr 4 _ rfl) (fun h => h)
          have b5 : wz1.cell? ⟨gr, offr + j * 7 + 5, none⟩ = some (.string x.v.text) := hmwz1.cell (hr 5 _ rfl) (fun h => h)
          have b6 : wz1.cell? ⟨gr, offr + j * 7 + 6, none⟩ = some (.bool x.v.yes) := hmwz1.cell (hr 6 _ rfl) (fun h => h)
          have e1' : wz1.cell? ⟨w5.heap.size, 1, none⟩ = some (.slice (some ⟨gr, offr, none⟩) M.length cr) := hmwz1.cell e1 (fun h => h)
          have hcap : (M.length : Int) ≤ cap2 := by
            obtain ⟨a', c', h1, h2⟩ := Hownf.out.shape
            cases h1
            omega
          have hcapr : (M.length : Int) ≤ cr := by
            obtain ⟨a', c', h1, h2⟩ := Hownr.out.shape
            cases h1
            omega
          have hgz1 := hmwz2.heap hgwz1 (fun h => h)
          have y0 : wz2.cell? ⟨wr.heap.size, 0, none⟩ = some (.string x.name) := cell_of hgz1 rfl
          have y1 : wz2.cell? ⟨wr.heap.size, 1, none⟩ = some (.int .i64 x.op) := cell_of hgz1 rfl
          have y2 : wz2.cell? ⟨wr.heap.size, 2, none⟩ = some (.int .i64 x.v.kind) := cell_of hgz1 rfl
          have y3 : wz2.cell? ⟨wr.heap.size, 3, none⟩ = some (.int .i64 x.v.int) := cell_of hgz1 rfl
          have y4 : wz2.cell? ⟨wr.heap.size, 4, none⟩ = some (.float .f64 x.v.num) := cell_of hgz1 rfl
          have y5 : wz2.cell? ⟨wr.heap.size, 5, none⟩ = some (.string x.v.text) := cell_of hgz1 rfl
          have y6 : wz2.cell? ⟨wr.heap.size, 6, none⟩ = some (.bool x.v.yes) := cell_of hgz1 rfl
          have z0 : wz2.cell? ⟨wz1.heap.size, 0, none⟩ = some (.string x.name) := cell_of hgwz2 rfl
          have z1 : wz2.cell? ⟨wz1.heap.size, 1, none⟩ = some (.int .i64 x.op) := cell_of hgwz2 rfl
          have z2 : wz2.cell? ⟨wz1.heap.size, 2, none⟩ = some (.int .i64 x.v.kind) := cell_of hgwz2 rfl
          have z3 : wz2.cell? ⟨wz1.heap.size, 3, none⟩ = some (.int .i64 x.v.int) := cell_of hgwz2 rfl
          have z4 : wz2.cell? ⟨wz1.heap.size, 4, none⟩ = some (.float .f64 x.v.num) := cell_of hgwz2 rfl
          have z5 : wz2.cell? ⟨wz1.heap.size, 5, none⟩ = some (.string x.v.text) := cell_of hgwz2 rfl
          have z6 : wz2.cell? ⟨wz1.heap.size, 6, none⟩ = some (.bool x.v.yes) := cell_of hgwz2 rfl
          have hsm := value_same x.v x.v hx hx wz2
          rw [V.same_self] at hsm
          have hmz : Mod (fun _ => False) w8 wz2 := (hmr.trans hmwz1 (fun _ _ h => h)).trans hmwz2 (fun _ _ h => h)
          have Hz1 := Lib.hid hwz1
          have Hz2 := Lib.hid hwz2
          have hq1 : wr.heap.size < wz1.heap.size := by omega
          have hq2 : wz1.heap.size < wz2.heap.size := by omega
          have Hxj := Lib.hid hxj
          have Hx := Lib.hid hx
          have Hf := Lib.hid hf
          have Hr := Lib.hid hr
          have Hsm := Lib.hid hsm
          have Hmz := Lib.hid hmz
          have Hzwz1 := Lib.hid hzwz1
          have Hzwz2 := Lib.hid hzwz2
          clear hxj hx hf hr hsm hmz hzwz1 hzwz2 hwz1 hwz2 hmr hgE hgz1 hgwz1 hgwz2 hmwz1 hmwz2 e1 D0 D1 E0 E1
          go_wp2_with (first | ((with_reducible refine wpList_store_lit 67 (.tmp 9) (.tmp 107) ?_); refine ⟨rfl, x.cells, rfl, rfl, by kernel_rfl, rfl, ?_⟩; rw [Hz1.out]) | ((with_reducible refine wpList_store_lit 67 (.tmp 10) (.tmp 112) ?_); refine ⟨rfl, x.cells, rfl, rfl, by kernel_rfl, rfl, ?_⟩; rw [Hz2.out]) | fail)
          refine Hsm.out.mono ?_
          rintro e w9 ⟨rfl, hm9⟩
          have Hm99 := Lib.hid (Hmz.out.trans hm9 (fun _ _ h => h))
          clear hm9 Hsm
          go_wp2_with fail
          go_roundw
          all_goals first
            | exact ⟨j + 1, by go_num, hlt, Hm99.out⟩
            | (simp [intOf]; omega)
        · obtain rfl : j = M.length := by omega
          have Hmr := Lib.hid hmr
          clear hmr
          go_wp2
          go_ret
          exact ⟨rfl, Hm9.out.trans Hmr.out (fun _ _ h => h)⟩
end Go.Proofs.Ytfpghpicknnfgaa
