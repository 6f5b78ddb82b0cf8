/-
  The Writer's Value.
-/
import Derived.Test.YtmlnklbjjnjplaaWrite
import Derived.Test.YtmlnklbjjnjplaaValue
import Derived.Test.YtmlnklbjjnjplaaRdv
namespace Go.Proofs.Ytmlnklbjjnjplaa
open Go.RowKit

/-- A value's bytes. -/
def valBytes (v : V) : List UInt8 :=
  byteOf v.kind :: (if v.kind = 0 then longBytes (v.int % 18446744073709551616).toNat else if v.kind = 1 then longBytes (keyB v.num) else if v.kind = 2 then byteOf v.text.size :: txt v.text else [if v.yes then 1 else 0])

theorem keyB_lt {x : Nat} (hx : x < 2 ^ 64) : keyB x < 2 ^ 64 := by
  have := canonB_lt hx
  unfold keyB
  split
  · split <;> omega
  · omega

/-- The last byte, written anew. -/
theorem Wtr.last {w : World} {p : Nat} {v : Value} {bs : List UInt8} {b : UInt8} (h : Wtr w p v (bs ++ [b])) : ∃ g off cap, v = .slice (some ⟨g, off, none⟩) (bs.length + 1) cap ∧ bs.length + 1 ≤ cap ∧
    w.cell? ⟨g, off + bs.length, none⟩ = some (.int .u8 (b.toNat : Int)) ∧ w.frozen? ⟨g, off + bs.length, none⟩ = false ∧
    ∀ c : UInt8, Wtr (w.setCell ⟨g, off + bs.length, none⟩ (.int .u8 (c.toNat : Int))) p v (bs ++ [c]) ∧ Wrote w p v (w.setCell ⟨g, off + bs.length, none⟩ (.int .u8 (c.toNat : Int))) v := by
  have hlen : (bs ++ [b]).length = bs.length + 1 := by simp
  rcases h.own.2 with ⟨rfl, h0⟩ | ⟨g, off, cap, cur, hv, hg, hn, hc, hs, ht⟩
  · omega
  rw [hlen] at hv hn
  refine ⟨g, off, cap, hv, hn, ?_, fr_of hg, fun c => ?_⟩
  · refine cell_of hg ?_
    have : (u8s (bs ++ [b]))[bs.length]? = some (.int .u8 (b.toNat : Int)) := by simp [u8s]
    rw [← ht, List.getElem?_take, if_pos (by omega), List.getElem?_drop] at this
    simpa using this
  · have hgp : g ≠ p := h.ne g (by rw [hv]; rfl)
    refine ⟨⟨?_, ⟨by simp [u8s], .inr ⟨g, off, cap, _, by rw [hv]; simp, heap_set hg, by simpa using hn, hc, by simpa using hs, ?_⟩⟩⟩, ⟨(Mod.refl (fun k => k = p ∨ inBlock v k) w).setCell (fun _ => .inr (by rw [hv]; rfl)) _, fun k hk => .inl hk⟩⟩
    · exact ((Mod.refl (fun k => k = g) w).setCell (fun _ => rfl) _).heap h.row (fun h => hgp h.symm)
    · have e : ((bs ++ [c]).length * 1) = ((bs ++ [b]).length * 1) := by simp
      rw [e, Array.toList_setIfInBounds, List.drop_set, if_neg (by omega), List.take_set, ht, u8s_snoc, u8s_snoc, show off + bs.length - off = (u8s bs).length by rw [u8s_length]; omega]
      simp

set_option maxRecDepth 20000 in
set_option maxHeartbeats 1000000 in
theorem wr_value (w : World) (p : Nat) (v : Value) (bs : List UInt8) (h : Wtr w p v bs) (hl : bs.length ≤ 8000000) (u : V) (ht : u.text.size ≤ 100000) (hn : u.num < 2 ^ 64) :
    Calls Try.prog 33 #[.pointer (some ⟨p, 0, none⟩), .agg u.cells.toArray] w fun e w' => e = .returned (.pointer (some ⟨p, 0, none⟩)) ∧ ∃ v', Wtr w' p v' (bs ++ valBytes u) ∧ Wrote w p v w' v' := by
  obtain ⟨kind, int, num, text, yes⟩ := u
  unfold V.cells
  have hal : Mod (fun _ => False) w ((w.alloc (.cells #[.int .i64 kind, .int .i64 int, .float .f64 num, .string text, .bool yes] 52)).alloc (.cells #[.int .i64 kind] 3)) := ((Mod.refl _ w).alloc _).alloc _
  have hb := wr_byte _ p v bs (h.same hal) (by omega) kind (w.heap.size + 1) (cell_of (heap_alloc2 w _ _) rfl)
  have Hb := Lib.hid hb
  have Hal := Lib.hid hal
  have Hl := Lib.hid hl
  have Ht := Lib.hid ht
  have Hn := Lib.hid hn
  have H := Lib.hid h
  clear h hb hal hl ht hn
  go_enter Try.func33, Try.ntmps33
  go_wp2_with fail
  refine Hb.out.mono ?_
  rintro e w1 ⟨rfl, v1, hw1, hwr1⟩
  have hg1 : w1.heap[w.heap.size]? = some (.cells #[.int .i64 kind, .int .i64 int, .float .f64 num, .string text, .bool yes] 52 (0, 0)) :=
    hwr1.mod.heap (heap_old (heap_alloc_new w _)) (fun hk => by
      rcases hk with hk | hk
      · have := H.out.lt; omega
      · have := H.out.blt _ hk; omega)
  have hwr : Wrote w p v w1 v1 := ⟨(Hal.out.mono (fun _ _ h => h.elim)).trans hwr1.mod (fun _ _ h => h), fun k hk => (hwr1.new k hk).imp id (fun h => by have := Hal.out.size; omega)⟩
  have b0 : w1.cell? ⟨w.heap.size, 0, none⟩ = some (.int .i64 kind) := cell_of hg1 rfl
  have b1 : w1.cell? ⟨w.heap.size, 1, none⟩ = some (.int .i64 int) := cell_of hg1 rfl
  have b2 : w1.cell? ⟨w.heap.size, 2, none⟩ = some (.float .f64 num) := cell_of hg1 rfl
  have b3 : w1.cell? ⟨w.heap.size, 3, none⟩ = some (.string text) := cell_of hg1 rfl
  have b4 : w1.cell? ⟨w.heap.size, 4, none⟩ = some (.bool yes) := cell_of hg1 rfl
  have Hw1 := Lib.hid hw1
  have Hwr := Lib.hid hwr
  have Hg1 := Lib.hid hg1
  clear hw1 hwr1 hwr hg1 Hb
  rcases (by omega : kind = 0 ∨ kind = 1 ∨ kind = 2 ∨ (kind ≠ 0 ∧ kind ≠ 1 ∧ kind ≠ 2)) with rfl | rfl | rfl | ⟨h0, h1, h2⟩
  · have hx : IntKind.u64.wrap int = (((int % 18446744073709551616).toNat : Nat) : Int) := by rw [IntKind.wrap_u64]; omega
    have hlg := wr_long w1 p v1 _ Hw1.out (by rw [List.length_append]; have := Hl.out; simp; omega) (int % 18446744073709551616).toNat (by omega)
    rw [← hx] at hlg
    clear hx
    have Hlg := Lib.hid hlg
    clear hlg
    go_wp2_with fail
    refine Hlg.out.mono ?_
    rintro e w2 ⟨rfl, v2, hw2, hwr2⟩
    go_wp2
    go_ret
    refine ⟨rfl, v2, ?_, Hwr.out.trans hwr2⟩
    rw [List.append_assoc] at hw2
    exact hw2
  · have hky := key_at num Hn.out w1
    have hlg := wr_long w1 p v1 _ Hw1.out (by rw [List.length_append]; have := Hl.out; simp; omega) (keyB num) (keyB_lt Hn.out)
    have Hky := Lib.hid hky
    have Hlg := Lib.hid hlg
    clear hlg hky
    go_wp2_with fail
    refine Hky.out.mono ?_
    rintro e w1' ⟨rfl, rfl⟩
    go_wp2_with fail
    refine Hlg.out.mono ?_
    rintro e w2 ⟨rfl, v2, hw2, hwr2⟩
    go_wp2
    go_ret
    refine ⟨rfl, v2, ?_, Hwr.out.trans hwr2⟩
    rw [List.append_assoc] at hw2
    exact hw2
  · have hlg := wr_text w1 p v1 _ Hw1.out (by rw [List.length_append]; have := Hl.out; simp; omega) text Ht.out
    have Hlg := Lib.hid hlg
    clear hlg
    go_wp2_with fail
    refine Hlg.out.mono ?_
    rintro e w2 ⟨rfl, v2, hw2, hwr2⟩
    go_wp2
    go_ret
    refine ⟨rfl, v2, ?_, Hwr.out.trans hwr2⟩
    rw [List.append_assoc] at hw2
    exact hw2
  · have hal1 : Mod (fun _ => False) w1 (w1.alloc (.cells #[.int .i64 0] 3)) := (Mod.refl _ w1).alloc _
    have hlg := wr_byte _ p v1 _ (Hw1.out.same hal1) (by rw [List.length_append]; have := Hl.out; simp; omega) 0 w1.heap.size (cell_of (heap_alloc_new w1 _) rfl)
    have Hlg := Lib.hid hlg
    have Hal1 := Lib.hid hal1
    have hvb : valBytes ⟨kind, int, num, text, yes⟩ = byteOf kind :: [if yes then 1 else 0] := by unfold valBytes; simp [h0, h1, h2]
    have Hvb := Lib.hid hvb
    clear hlg hal1 hvb
    go_wp2_with fail
    refine Hlg.out.mono ?_
    rintro e w2 ⟨rfl, v2, hw2, hwr2⟩
    have hg2 : w2.heap[w.heap.size]? = some (.cells #[.int .i64 kind, .int .i64 int, .float .f64 num, .string text, .bool yes] 52 (0, 0)) :=
      hwr2.mod.heap (heap_old Hg1.out) (fun hk => by
        rcases hk with hk | hk
        · have := H.out.lt; omega
        · rcases Hwr.out.new _ hk with h | h
          · have := H.out.blt _ h; omega
          · obtain ⟨cur, hcur⟩ := Hw1.out.own.elem _ hk
            rw [Hg1.out] at hcur
            cases hcur)
    have d4 : w2.cell? ⟨w.heap.size, 4, none⟩ = some (.bool yes) := cell_of hg2 rfl
    have hwr : Wrote w p v w2 v2 := Hwr.out.trans ⟨(Hal1.out.mono (fun _ _ h => h.elim)).trans hwr2.mod (fun _ _ h => h), fun k hk => (hwr2.new k hk).imp id (fun h => by have := Hal1.out.size; omega)⟩
    have Hw2 := Lib.hid hw2
    have Hwr2 := Lib.hid hwr
    clear hw2 hwr hwr2 hg2 Hlg Hal1
    cases yes with
    | false =>
      go_wp2
      go_ret
      refine ⟨rfl, v2, ?_, Hwr2.out⟩
      rw [Hvb.out]
      have h := Hw2.out
      rw [List.append_assoc] at h
      exact h
    | true =>
      obtain ⟨g, off, cap, rfl, hcap, hcell, hfr, hlast⟩ := Hw2.out.last
      obtain ⟨m, hm⟩ : ∃ m, (bs ++ [byteOf kind]).length = m := ⟨_, rfl⟩
      have hm' : m ≤ 8000001 := by rw [← hm, List.length_append]; have := Hl.out; simpa using this
      have hmlt : (m : Int) < m + 1 := by omega
      have hmw : IntKind.i64.wrap (m : Int) = m := by rw [IntKind.wrap_i64]; omega
      have cp := cell_of (j := 0) Hw2.out.row rfl
      rw [hm] at cp hcell hfr hlast hcap Hwr2
      have Hlast := Lib.hid hlast
      have hcap' : (m : Int) + 1 ≤ cap := by omega
      have hm'' : (m : Int) ≤ 8000001 := by omega
      have Hmm := Lib.hid hm
      clear hlast hm
      have hsl : ∀ x : World, x.cell? ⟨p, 0, none⟩ = some (.slice (some ⟨g, off, none⟩) (m + 1) cap) → x.cell? ⟨p, 0, none⟩ = some (.slice (some ⟨g, off, none⟩) (m + 1) cap) := fun _ h => h
      go_wp2_with fail
      refine wp_region_script [.rd 0, .rd 1, .rd 2, .rd 3, .rd 4, .rd 5, .rd 6, .rd 7, .rd 8, .rd 9, .rd 10, .go 11] [0, 1, 2, 3, 4, 5, 6, 7, 8, 9, 10] (fun y => y.cell? ⟨p, 0, none⟩ = some (.slice (some ⟨g, off, none⟩) (m + 1) cap)) (by kernel_rfl) (by kernel_rfl) (fun _ _ d _ _ h => (by cases d <;> exact h)) ?_
      have cS := cp
      refine walk_rd rfl rfl (fun _ => cS) ?_ (fun w0 h0 => ?_) (fun K hK => ?_)
      rotate_left
      · clear h0; go_simp; with_reducible rfl
      go_simp; refine hK _ ?_; clear hK K
      refine walk_rd rfl rfl (fun _ => cS) ?_ (fun w0 h0 => ?_) (fun K hK => ?_)
      rotate_left
      · clear h0; go_simp; with_reducible rfl
      go_simp; refine hK _ ?_; clear hK K
      refine walk_rd rfl rfl (fun _ => cS) ?_ (fun w0 h0 => ?_) (fun K hK => ?_)
      rotate_left
      · clear h0; go_simp; with_reducible rfl
      go_simp; refine hK _ ?_; clear hK K
      refine walk_rd rfl rfl (fun _ => cS) ?_ (fun w0 h0 => ?_) (fun K hK => ?_)
      rotate_left
      · have h1 := h0 rfl; clear h0; go_simp; with_reducible rfl
      go_simp; refine hK _ ?_; clear hK K
      refine walk_rd rfl rfl (fun _ => cS) ?_ (fun w0 h0 => ?_) (fun K hK => ?_)
      rotate_left
      · clear h0; go_simp; with_reducible rfl
      go_simp; refine hK _ ?_; clear hK K
      refine walk_rd rfl rfl (fun _ => cS) ?_ (fun w0 h0 => ?_) (fun K hK => ?_)
      rotate_left
      · clear h0; go_simp; with_reducible rfl
      go_simp; refine hK _ ?_; clear hK K
      refine walk_rd rfl rfl (fun _ => cS) ?_ (fun w0 h0 => ?_) (fun K hK => ?_)
      rotate_left
      · clear h0; go_simp; with_reducible rfl
      go_simp; refine hK _ ?_; clear hK K
      refine walk_rd rfl rfl (fun _ => cS) ?_ (fun w0 h0 => ?_) (fun K hK => ?_)
      rotate_left
      · have h1 := h0 rfl; clear h0; go_simp; with_reducible rfl
      go_simp; refine hK _ ?_; clear hK K
      refine walk_rd rfl rfl (fun _ => cS) ?_ (fun w0 h0 => ?_) (fun K hK => ?_)
      rotate_left
      · clear h0; go_simp; with_reducible rfl
      go_simp; refine hK _ ?_; clear hK K
      refine walk_rd rfl rfl (fun _ => cS) ?_ (fun w0 h0 => ?_) (fun K hK => ?_)
      rotate_left
      · clear h0; go_simp; with_reducible rfl
      go_simp; refine hK _ ?_; clear hK K
      refine walk_rd rfl rfl (fun _ => cS) ?_ (fun w0 h0 => ?_) (fun K hK => ?_)
      rotate_left
      · clear h0; go_simp; with_reducible rfl
      go_simp; refine hK _ ?_; clear hK K
      refine walk_one (go_yes rfl rfl (fun K hK => ?_))
      go_simp
      refine hK _ _ (fun h => absurd h (by decide)) ?_
      clear hK K
      refine walk_nil ?_
      go_wp2
      go_ret
      have hL : Wtr (w2.setCell ⟨g, off + m, none⟩ (.int .u8 1)) p (.slice (some ⟨g, off, none⟩) (m + 1) cap) ((bs ++ [byteOf kind]) ++ [1]) ∧ Wrote w2 p (.slice (some ⟨g, off, none⟩) (m + 1) cap) (w2.setCell ⟨g, off + m, none⟩ (.int .u8 1)) (.slice (some ⟨g, off, none⟩) (m + 1) cap) := Hlast.out 1
      refine ⟨rfl, .slice (some ⟨g, off, none⟩) (m + 1) cap, ?_, (Hwr2.out.trans hL.2).also ((Mod.refl (fun _ => False) _).drew) (fun _ h => h.elim)⟩
      rw [Hvb.out]
      have h := hL.1.same ((Mod.refl (fun _ => False) _).drew)
      rw [List.append_assoc] at h
      exact h
end Go.Proofs.Ytmlnklbjjnjplaa
