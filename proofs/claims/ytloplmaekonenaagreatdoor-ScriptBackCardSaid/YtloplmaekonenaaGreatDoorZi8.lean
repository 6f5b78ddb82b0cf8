/-
  The Reader's Filter.
  append of a text's bytes.
-/
import Derived.Test.YtloplmaekonenaaGreatDoorZi5
import Derived.Test.YtloplmaekonenaaGreatDoorZi7
import Derived.Test.YtloplmaekonenaaGreatDoorZi2
namespace Go.Proofs.YtloplmaekonenaaGreatDoor
set_option maxRecDepth 20000
open Go.RowKit
def readConds : Nat → List UInt8 → Option (List Cnd × List UInt8)
  | 0, bs => some ([], bs)
  | n + 1, bs => (readT bs).bind fun p => match p.2 with
    | [] => none
    | o :: t => (readV t).bind fun q => (readConds n q.2).map fun z => (⟨p.1, o.toNat, q.1⟩ :: z.1, z.2)
theorem readConds_zero (bs : List UInt8) : readConds 0 bs = some ([], bs) := rfl
theorem readConds_succ (n : Nat) (bs : List UInt8) : readConds (n + 1) bs = (readT bs).bind fun p => match p.2 with
    | [] => none
    | o :: t => (readV t).bind fun q => (readConds n q.2).map fun z => (⟨p.1, o.toNat, q.1⟩ :: z.1, z.2) := rfl
def readF (bs : List UInt8) : Option ((ByteArray × List Cnd) × List UInt8) :=
  (readT bs).bind fun p => match p.2 with
    | [] => none
    | n :: t => (readConds n.toNat t).map fun z => ((p.1, z.1), z.2)
theorem conds_T : SliceT Tryz.prog 27 81 7 72 := sliceT (by kernel_rfl) (by kernel_rfl)
def WentC (l : List Cnd) (t bs : List UInt8) (k : Nat) : Prop := ∀ m, readConds (k + m) bs = (readConds m t).map fun z => (l ++ z.1, z.2)
theorem WentC.start (bs : List UInt8) : WentC [] bs bs 0 := fun m => by rw [Nat.zero_add]; cases readConds m bs <;> simp
theorem WentC.next {l : List Cnd} {t bs : List UInt8} {k : Nat} (h : WentC l t bs k) {s : ByteArray} {o : UInt8} {t1 t2 : List UInt8} {v : V} (h1 : readT t = some (s, o :: t1)) (h2 : readV t1 = some (v, t2)) : WentC (l ++ [⟨s, o.toNat, v⟩]) t2 bs (k + 1) := fun m => by
  rw [Nat.add_assoc, h (1 + m), Nat.add_comm 1 m, readConds_succ, h1]
  simp only [Option.bind_some, h2]
  cases readConds m t2 <;> simp
theorem WentC.none {l : List Cnd} {t bs : List UInt8} {k n : Nat} (h : WentC l t bs k) (hk : k < n) (hr : ∀ m, readConds (m + 1) t = none) : readConds n bs = none := by
  have := h (n - k - 1 + 1)
  rw [hr, show k + (n - k - 1 + 1) = n by omega] at this
  simpa using this
theorem WentC.done {l : List Cnd} {t bs : List UInt8} {k : Nat} (h : WentC l t bs k) : readConds k bs = some (l, t) := by
  have := h 0
  rw [Nat.add_zero, readConds_zero] at this
  simpa using this
theorem cnds_snoc (l : List Cnd) (a : Cnd) : cnds (l ++ [a]) = cnds l ++ a.cells := by unfold cnds; simp
set_option maxRecDepth 20000 in
set_option maxHeartbeats 2000000 in
theorem rd_filter (w : World) (r G : Nat) (bs : List UInt8) (h : Rdr w r G bs) (hG : G < w.heap.size) :
    Calls Tryz.prog 116 #[.pointer (some ⟨r, 0, none⟩)] w fun e w' =>
      (readF bs = none ∧ e = .panicked short ∧ Mod (fun k => k = r) w w') ∨
      (∃ sc l t av, readF bs = some ((sc, l), t) ∧ sc.size ≤ 255 ∧ e = .returned (.agg #[.string sc, av]) ∧ OwnSl w' 81 7 av l.length (cnds l) ∧ (∀ b, av.ownBlock = some b → w.heap.size ≤ b) ∧ Rdr w' r G t ∧ Mod (fun k => k = r) w w') := by
  have hrl := h.lt
  obtain ⟨wa, hwa⟩ : ∃ wa : World, wa = w.alloc (.cells #[.string ⟨#[]⟩, .slice none 0 0] 29) := ⟨_, rfl⟩
  have hma : Mod (fun _ => False) w wa := hwa ▸ (Mod.refl (fun _ => False) w).alloc _
  have hga : wa.heap[w.heap.size]? = some (.cells #[.string ⟨#[]⟩, .slice none 0 0] 29 (0, 0)) := hwa ▸ heap_alloc_new w _
  have hra := h.new hma hrl hG (by simp)
  have Hb := Lib.hid (rd_text2 wa r G bs hra)
  have Hma := Lib.hid hma
  have Hga := Lib.hid hga
  have Hwa := Lib.hid hwa
  clear h hma hra hga
  go_enter Tryz.func116, Tryz.ntmps116
  go_wp2_with fail
  rw [← Hwa.out]
  clear hwa
  refine Hb.out.mono ?_
  rintro e w1 (⟨h1, rfl, hm1⟩ | ⟨sc, t, h1, hsc, rfl, hr1, hm1⟩)
  · exact ⟨rfl, .inl ⟨by unfold readF; rw [h1]; rfl, rfl, (Hma.out.mono (by simp)).trans hm1 (fun _ _ h => h)⟩⟩
  have hm01 : Mod (fun k => k = r) w w1 := (Hma.out.mono (by simp)).trans hm1 (fun _ _ h => h)
  have hg1 := hm1.heap Hga.out (by omega)
  have hl1 : w.heap.size < w1.heap.size := (Array.getElem?_eq_some_iff.1 hg1).1
  obtain ⟨wb, hwb⟩ : ∃ wb : World, wb = w1.alloc (.cells #[.string sc, .slice none 0 0] 29) := ⟨_, rfl⟩
  have hmb : Mod (fun _ => False) w1 wb := hwb ▸ (Mod.refl (fun _ => False) w1).alloc _
  have hgb : wb.heap[w1.heap.size]? = some (.cells #[.string sc, .slice none 0 0] 29 (0, 0)) := hwb ▸ heap_alloc_new w1 _
  have hgb2 := hmb.heap hg1 (by simp)
  have hrb := hr1.new hmb (B := w.heap.size) hrl hG (by simp)
  have hm0b : Mod (fun k => k = r) w wb := hm01.trans (hmb.mono (by simp)) (fun _ _ h => h)
  have Hb2 := Lib.hid (rd_byte wb r G t hrb)
  have H1 := Lib.hid h1
  have Hm0b := Lib.hid hm0b
  have Hgb := Lib.hid hgb
  have Hgb2 := Lib.hid hgb2
  have Hwb := Lib.hid hwb
  have Hsc := Lib.hid hsc
  clear h1 hr1 hm1 hm01 hg1 hmb hgb hgb2 hrb hm0b Hb Hma Hga Hwa hsc
  go_wp2_with (first | (refine wpList_store_new rfl 29 (.tmp 3) (.tmp 6) rfl rfl _ 29 [.string sc, .slice none 0 0] rfl rfl (by kernel_rfl) (fun u hu => List.all_eq_true.1 rfl u hu) ?_) | fail)
  rw [← Hwb.out]
  clear hwb Hwb
  refine Hb2.out.mono ?_
  rintro e w2 (⟨rfl, rfl, rfl⟩ | ⟨n, t0, rfl, rfl, hr2, hm2⟩)
  · exact ⟨rfl, .inl ⟨by unfold readF; rw [H1.out]; rfl, rfl, Hm0b.out⟩⟩
  have hm02 : Mod (fun k => k = r) w w2 := Hm0b.out.trans hm2 (fun _ _ h => h)
  have hg3 := hm2.heap Hgb.out (by omega)
  have hg2 := hm2.heap Hgb2.out (by omega)
  have hl2 : w1.heap.size < w2.heap.size := (Array.getElem?_eq_some_iff.1 hg3).1
  have hn := n.toNat_lt
  have hn' : (n.toNat : Int) ≤ 255 := by omega
  have Hr2 := Lib.hid hr2
  have Hm02 := Lib.hid hm02
  have Hg3 := Lib.hid hg3
  have Hg2 := Lib.hid hg2
  obtain ⟨N, hN⟩ : ∃ N, n.toNat = N := ⟨_, rfl⟩
  have HN := Lib.hid hN
  rw [hN] at hn hn' ⊢
  clear hm2 hr2 hm02 hg3 hg2 Hb2 Hm0b Hgb Hgb2 hN
  go_wp2_with fail
  go_loopw [9] (fun i wr => ∃ k : Nat, ∃ l t av, k ≤ N ∧ i = .int .i64 k ∧ l.length = k ∧ WentC l t t0 k ∧ (∀ x ∈ l, x.name.size ≤ 255) ∧ Rdr wr r G t ∧ wr.heap[w1.heap.size]? = some (.cells #[.string sc, av] 29 (0, 0)) ∧
      OwnSl wr 81 7 av l.length (cnds l) ∧ (∀ b, av.ownBlock = some b → w2.heap.size ≤ b) ∧ Mod (fun k => k = r ∨ k = w1.heap.size) w2 wr) (fun i _ => N - (intOf i).toNat)
  case atStart => exact ⟨0, [], t0, .slice none 0 0, Nat.zero_le _, rfl, rfl, WentC.start _, by simp, Hr2.out, Hg3.out, OwnSl.nil _ _ _, (fun b hb => by cases hb), Mod.refl _ _⟩
  case round =>
    obtain ⟨k, l, t, av, hkN, rfl, hlk, hwent, hnames, hrr, hgr, hown, hfresh, hmr⟩ := hrel
    have Hwent := Lib.hid hwent
    have Hnames := Lib.hid hnames
    have Hrr := Lib.hid hrr
    have Hgr := Lib.hid hgr
    have Hown := Lib.hid hown
    have Hfresh := Lib.hid hfresh
    have Hmr := Lib.hid hmr
    have Hlk := Lib.hid hlk
    have hlr : w2.heap.size ≤ wr.heap.size := hmr.size
    clear hwent hnames hrr hgr hown hfresh hmr hlk
    by_cases hlt : k < N
    · have hlt' : (k : Int) < N := by omega
      have c1 : wr.cell? ⟨w1.heap.size, 1, none⟩ = some av := cell_of Hgr.out rfl
      go_wp2_with fail
      refine wp_region_plan2 [0, 2, 4, 6, 1] [3, 5, 7, 8, 9] [10, 11, 12] (fun x => x.cell? ⟨w1.heap.size, 1, none⟩ = some av) (by kernel_rfl) (by kernel_rfl) (fun _ _ d _ _ h => (by cases d <;> exact h)) c1 ?_
      simp only [opsAt, List.filterMap_cons, List.filterMap_nil, List.getElem?_toArray, List.getElem?_cons_succ, List.getElem?_cons_zero]
      refine stillS_cons (v := ?_) rfl (fun w0 h0 => ?_) ?_
      rotate_left
      · go_simp; with_reducible rfl
      simp only [Act.put, List.setIfInBounds_toArray, List.set_cons_zero, List.set_cons_succ]
      refine stillS_cons (v := ?_) rfl (fun w0 h0 => ?_) ?_
      rotate_left
      · go_simp; with_reducible rfl
      simp only [Act.put, List.setIfInBounds_toArray, List.set_cons_zero, List.set_cons_succ]
      refine stillS_cons (v := ?_) rfl (fun w0 h0 => ?_) ?_
      rotate_left
      · go_simp; with_reducible rfl
      simp only [Act.put, List.setIfInBounds_toArray, List.set_cons_zero, List.set_cons_succ]
      refine stillS_cons (v := ?_) rfl (fun w0 h0 => ?_) ?_
      rotate_left
      · go_simp; with_reducible rfl
      simp only [Act.put, List.setIfInBounds_toArray, List.set_cons_zero, List.set_cons_succ]
      refine stillS_cons (v := ?_) rfl (fun w0 h0 => ?_) ?_
      rotate_left
      · have h1 := h0 rfl; clear h0; go_simp; with_reducible rfl
      simp only [Act.put, List.setIfInBounds_toArray, List.set_cons_zero, List.set_cons_succ]
      refine stillS_nil ?_
      have hrd : Rdr wr.drew r G t := Hrr.out.new (Mod.refl (fun _ => False) wr).drew (B := w.heap.size) hrl hG (fun _ h => h.elim)
      have Ht := Lib.hid (rd_text2 wr.drew r G t hrd)
      clear hrd
      refine walkT_cons rfl (fun K' hK' => ?_)
      go_wp2_with fail
      refine Ht.out.mono ?_
      rintro e w3 (⟨h1, rfl, hm3⟩ | ⟨s, t1, h1, hs, rfl, hr3, hm3⟩)
      · refine ⟨rfl, .inl ⟨?_, rfl, ?_⟩⟩
        · unfold readF
          rw [H1.out]
          show ((readConds n.toNat t0).map _) = none
          rw [HN.out, Hwent.out.none hlt (fun m => by rw [readConds_succ, h1]; rfl)]
          rfl
        · exact (Hm02.out.on Hmr.out (fun b hb => by omega)).on ((Mod.refl _ wr).drew.trans hm3 (fun _ _ h => h)) (fun b hb => .inl hb)
      have hm3' : Mod (fun k => k = r) wr w3 := (Mod.refl _ wr).drew.trans hm3 (fun _ _ h => h)
      have hg3 := hm3'.heap Hgr.out (by omega)
      have c3 : w3.cell? ⟨w1.heap.size, 1, none⟩ = some av := cell_of hg3 rfl
      refine hK' _ _ (fun _ => c3) ?_
      refine walkT_cons rfl (fun K9 hK9 => ?_)
      have Hby := Lib.hid (rd_byte w3 r G t1 hr3)
      have hm3s := hm3'.size
      have Hs := Lib.hid hs
      have Hm3 := Lib.hid hm3'
      have Hg3' := Lib.hid hg3
      have Hh1 := Lib.hid h1
      clear hm3 hm3' hr3 hg3 h1 hK' Ht hs
      go_wp2_with fail
      refine Hby.out.mono ?_
      rintro e w8 (⟨rfl, rfl, rfl⟩ | ⟨o, t9, rfl, rfl, hr8, hm8⟩)
      · refine ⟨rfl, .inl ⟨?_, rfl, ?_⟩⟩
        · unfold readF
          rw [H1.out]
          show ((readConds n.toNat t0).map _) = none
          rw [HN.out, Hwent.out.none hlt (fun m => by rw [readConds_succ, Hh1.out]; rfl)]
          rfl
        · exact (Hm02.out.on Hmr.out (fun b hb => by omega)).on Hm3.out (fun b hb => .inl hb)
      have hg8 := hm8.heap Hg3'.out (by omega)
      have c8 : w8.cell? ⟨w1.heap.size, 1, none⟩ = some av := cell_of hg8 rfl
      refine hK9 _ _ (fun _ => c8) ?_
      refine walkT_cons rfl (fun K'' hK'' => ?_)
      have Hv := Lib.hid (rd_value w8 r G t9 hr8 (by have := hm8.size; omega))
      have Hm8 := Lib.hid hm8
      have Hg8 := Lib.hid hg8
      clear hm8 hr8 hg8 hK9 Hby
      go_wp2_with fail
      refine Hv.out.mono ?_
      rintro e w4 (⟨h2, rfl, hm4⟩ | ⟨v, t2, h2, rfl, hr4, hm4⟩)
      · refine ⟨rfl, .inl ⟨?_, rfl, ?_⟩⟩
        · unfold readF
          rw [H1.out]
          show ((readConds n.toNat t0).map _) = none
          rw [HN.out, Hwent.out.none hlt (fun m => by rw [readConds_succ, Hh1.out]; show (readV t9).bind _ = none; rw [h2]; rfl)]
          rfl
        · exact (((Hm02.out.on Hmr.out (fun b hb => by omega)).on Hm3.out (fun b hb => .inl hb)).on Hm8.out (fun b hb => .inl hb)).on hm4 (fun b hb => .inl hb)
      have hg4 := hm4.heap Hg8.out (by omega)
      have c4 : w4.cell? ⟨w1.heap.size, 1, none⟩ = some av := cell_of hg4 rfl
      have f4 : w4.frozen? ⟨w1.heap.size, 1, none⟩ = false := fr_of hg4
      refine hK'' _ _ (fun _ => c4) ?_
      obtain ⟨kind, int, num, text, yes⟩ := v
      unfold V.cells
      refine walkT_cons rfl (fun K3 hK3 => ?_)
      go_simp
      refine hK3 _ _ (fun _ => c4) ?_
      clear hK3 K3
      refine walkT_cons rfl (fun K3 hK3 => ?_)
      go_simp
      refine hK3 _ _ (fun _ => cell_new c4 _) ?_
      clear hK3 K3
      refine walkT_nil ?_
      have hown4 := ((Hown.out.mod Hm3.out (fun b hb => by have := Hfresh.out b hb; omega)).mod Hm8.out (fun b hb => by have := Hfresh.out b hb; omega)).mod hm4 (fun b hb => by have := Hfresh.out b hb; omega)
      have Hown4 := Lib.hid hown4
      have Hm4 := Lib.hid hm4
      have Hg4 := Lib.hid hg4
      have Hr4 := Lib.hid hr4
      have Hh2 := Lib.hid h2
      clear hown4 hm4 hg4 hr4 h2 hK'' Hv c1 c3
      have hlen : l.length ≤ 255 := by have := Hlk.out; omega
      have hne3 : ∀ b, inBlock av b → b ≠ w1.heap.size := fun b hb => by have := Hfresh.out b hb; omega
      have hone : ∀ u ∈ Cnd.cells ⟨s, o.toNat, kind, int, num, text, yes⟩, u.oneCell' = true := fun u hu => List.all_eq_true.1 (show (Cnd.cells ⟨s, o.toNat, kind, int, num, text, yes⟩).all (·.oneCell') = true from rfl) u hu
      have Hlen := Lib.hid hlen
      have Hne3 := Lib.hid hne3
      have Hone := Lib.hid hone
      clear hlen hne3 hone
      refine wpList_append_sl rfl (.tmp 12) (.tmp 20) 27 rfl 81 7 72 conds_T av l.length (cnds l) rfl (Hown4.out.alloc _) _ 1 (Cnd.cells ⟨s, o.toNat, kind, int, num, text, yes⟩) rfl (RdSl.one w4 (Cnd.cells ⟨s, o.toNat, kind, int, num, text, yes⟩) 81 rfl) Hone.out (by have := Hlen.out; omega) (by have := Hlen.out; unfold maxLen; omega) ?_
      intro ad cap w5 hA
      have hb5 := hA.2.1.heap (k := w1.heap.size) (heap_old Hg4.out) (fun h => Hne3.out _ h rfl)
      have k5 : w5.cell? ⟨w1.heap.size, 1, none⟩ = some av := cell_of hb5 rfl
      have f5 : w5.frozen? ⟨w1.heap.size, 1, none⟩ = false := fr_of hb5
      have HAp := Lib.hid hA
      have Hb5 := Lib.hid hb5
      clear hA hb5 c4 f4
      go_wp2_with fail
      go_roundw
      case rel =>
        have hsl := HAp.out.2.2
        have hal : Mod (fun _ => False) w4 (w4.alloc (.cells (Cnd.cells ⟨s, o.toNat, kind, int, num, text, yes⟩).toArray 81)) := (Mod.refl _ w4).alloc _
        have hm6 : Mod (fun k => k = w1.heap.size) w5 (w5.setCell ⟨w1.heap.size, 1, none⟩ (.slice ad (l.length + 1) cap)) := (Mod.refl (fun k => k = w1.heap.size) w5).setCell (fun _ => rfl) _
        have hl3 := Hm3.out.size
        have hl8 := Hm8.out.size
        have hl4 := Hm4.out.size
        have hnb : ∀ b, (Value.slice ad (l.length + 1) cap).ownBlock = some b → w2.heap.size ≤ b := fun b hb => by
          rcases hsl with h | ⟨q, h, hq⟩
          · exact Hfresh.out b (h.symm.trans hb)
          · rw [h] at hb
            cases hb
            have : (w4.alloc (.cells (Cnd.cells ⟨s, o.toNat, kind, int, num, text, yes⟩).toArray 81)).heap.size = w4.heap.size + 1 := by simp
            have hq' : w4.heap.size + 1 ≤ b := this ▸ hq
            omega
        refine ⟨k + 1, l ++ [⟨s, o.toNat, kind, int, num, text, yes⟩], t2, .slice ad (l.length + 1) cap, hlt, by go_num, by rw [List.length_append, Hlk.out]; rfl, Hwent.out.next Hh1.out Hh2.out, ?_, ?_, heap_set Hb5.out, ?_, hnb, ?_⟩
        · intro x hx
          rcases List.mem_append.1 hx with hx | hx
          · exact Hnames.out x hx
          · obtain rfl := List.mem_singleton.1 hx
            exact Hs.out
        · have h1 := Hr4.out.new hal (B := w.heap.size) hrl hG (fun _ h => h.elim)
          have h2 := h1.new HAp.out.2.1 (B := w.heap.size) hrl hG (fun b hb => by have := Hfresh.out b hb; omega)
          exact h2.new hm6 (B := w.heap.size) hrl hG (fun b hb => by omega)
        · rw [List.length_append, cnds_snoc]
          exact HAp.out.1.setCell (fun hb => by have := hnb _ hb; simp at this; omega) _
        · exact (((((Hmr.out.on Hm3.out (fun b hb => .inl (.inl hb))).on Hm8.out (fun b hb => .inl (.inl hb))).on Hm4.out (fun b hb => .inl (.inl hb))).on hal (fun b hb => hb.elim)).on HAp.out.2.1 (fun b hb => .inr (Hfresh.out b hb))).on hm6 (fun b hb => .inl (.inr hb))
      case measure => simp [intOf]; omega
    · obtain rfl : k = N := by omega
      obtain ⟨ava, avc, rfl, -⟩ := Hown.out.shape
      have hmw : Mod (fun k => k = r) w wr := Hm02.out.on Hmr.out (fun b hb => by omega)
      have hgt := Hmr.out.heap Hg2.out (by omega)
      have hre : readF bs = some ((sc, l), t) := by
        unfold readF
        rw [H1.out]
        show ((readConds n.toNat t0).map _) = _
        rw [HN.out, Hwent.out.done]
        rfl
      have Hmw := Lib.hid hmw
      have Hgt := Lib.hid hgt
      have HRE := Lib.hid hre
      clear hmw hgt hre
      go_wp2_with (first | (refine wpList_load_cells rfl 29 (.tmp 3) rfl w1.heap.size 0 rfl [.string sc, .slice ava l.length avc] (CellsAt.row Hgr.out) (by kernel_rfl) (by kernel_rfl) ?_) | (refine wpList_store_row rfl 29 (.tmp 2) (.tmp 24) rfl w.heap.size rfl _ 29 Hgt.out [.string sc, .slice ava l.length avc] rfl 2 rfl rfl (by kernel_rfl) rfl ?_; intro w7 h7 hm7; have H7 := Lib.hid h7; have Hm7 := Lib.hid hm7; clear h7 hm7) | fail)
      refine bodyPost_cell rfl w.heap.size rfl _ (CellsAt.row H7.out) (by kernel_rfl) (by kernel_rfl) rfl (.inr ⟨sc, l, t, .slice ava l.length avc, HRE.out, Hsc.out, rfl, ?_, ?_, ?_, ?_⟩)
      · exact Hown.out.mod Hm7.out (fun b hb => by have := Hfresh.out b hb; omega)
      · exact fun b hb => by have := Hfresh.out b hb; omega
      · exact Hrr.out.new Hm7.out (B := w.heap.size) hrl hG (fun b hb => by omega)
      · exact Hmw.out.on Hm7.out (fun b hb => .inr (by omega))
end Go.Proofs.YtloplmaekonenaaGreatDoor
namespace Go.Proofs.YtloplmaekonenaaGreatDoor
set_option maxRecDepth 20000
open Go.RowKit
def txt (s : ByteArray) : List UInt8 := s.data.toList
theorem txt_length (s : ByteArray) : (txt s).length = s.size := rfl
theorem firstCells_str (P : Program) (w : World) (s : ByteArray) : (Builtin.firstCells 1 s.size (.string s)).run P w = .ok (u8s (txt s)).toArray w := by
  have h : (s.extract 0 s.size).data.map (fun b => Value.int IntKind.u8 (b.toNat : Int)) = (u8s (txt s)).toArray := by
    apply Array.ext'
    simp [u8s, txt]
  simp [Builtin.firstCells]
  simpa using h
theorem run_append_str {P : Program} (w : World) (t u ty e : TypeId) (i : TypeInfo) (z : Value) (ht : P.underlying t = some (.slice e)) (hu : P.underlying u = some .string) (hi : P.info? e = some i) (hz : i.zero = some z)
    (hsize : i.size = 1) (hby : i.bytes = 1) (hzs : z.cells.size = 1)
    (v : Value) (n : Nat) (xs : List Value) (hown : OwnSl w e 1 v n xs) (s : ByteArray) (hbytes : n + s.size ≤ 140737488355328) (hmax : n + s.size ≤ maxLen) :
    ∃ v' w', (Builtin.append_ #[t, u] ty #[v, .string s]).run P w = .ok v' w' ∧ OwnSl w' e 1 v' (n + s.size) (xs ++ u8s (txt s)) ∧ Mod (inBlock v) w w' ∧
      (v'.ownBlock = v.ownBlock ∨ ∃ k, v'.ownBlock = some k ∧ w.heap.size ≤ k) := by
  have hf := firstCells_str P w s
  have hfd := firstCells_str P w.drew s
  have hul : (u8s (txt s)).length = s.size := by rw [u8s_length, txt_length]
  have hlen : (xs ++ u8s (txt s)).length = (n + s.size) * 1 := by rw [List.length_append, hown.1, hul, Nat.add_mul, Nat.mul_one s.size]
  have h1 : ∀ u ∈ u8s (txt s), u.oneCell' = true := fun u hu => by
    simp only [u8s, List.mem_map] at hu
    obtain ⟨b, -, rfl⟩ := hu
    rfl
  have grown : ∀ old, ∃ w', w' = w.drew.alloc (.cells (xs.toArray ++ (u8s (txt s)).toArray ++ Builtin.zeroCells z.cells (grownCap w (n + s.size) old e - (n + s.size))) e) ∧
      OwnSl w' e 1 (.slice (some ⟨w.heap.size, 0, none⟩) (n + s.size) (grownCap w (n + s.size) old e)) (n + s.size) (xs ++ u8s (txt s)) ∧ Mod (inBlock v) w w' := by
    intro old
    have hge := grownCap_ge w (n + s.size) old e
    have hcm : grownCap w (n + s.size) old e ≤ maxLen := grownCap_le_maxLen w (n + s.size) old e hmax
    refine ⟨_, rfl, ⟨hlen, .inr ⟨w.heap.size, 0, _, _, rfl, heap_alloc_new w.drew _, hge, hcm, ?_, ?_⟩⟩, ((Mod.refl _ w).drew).alloc _⟩
    · simp only [Array.size_append, List.size_toArray, size_zeroCells, hzs, hown.1, hul]
      omega
    · simp only [Array.toList_append, List.append_assoc, List.drop_zero]
      rw [← List.append_assoc, ← hlen]
      exact List.take_left
  by_cases hroom : ∃ a cap, v = .slice a n cap ∧ n + s.size ≤ cap
  · obtain ⟨a, cap, hv, hroom⟩ := hroom
    rcases hown.2 with ⟨hv', rfl⟩ | ⟨g, off, cap', cur, hv', hg, hnc, hcm, hs, htk⟩
    · rw [hv'] at hv; cases hv
      have hm : s.size = 0 := by omega
      have hxs : xs = [] := List.eq_nil_of_length_eq_zero (by simpa using hown.1)
      have hns : u8s (txt s) = [] := List.eq_nil_of_length_eq_zero (by omega)
      subst hxs hv'
      refine ⟨.slice none 0 0, w, ?_, by rw [hns, hm]; exact OwnSl.nil w e 1, Mod.refl _ _, .inl rfl⟩
      rw [hm] at hf
      simp [Builtin.append_, run_underlying ht, run_underlying hu, sizeOf, typeInfo, hi, Builtin.lenOf, hm, hsize, hf]
    · rw [hv'] at hv; cases hv
      subst hv'
      have hfit : off + n + (u8s (txt s)).length ≤ cur.size := by
        rw [hul]; omega
      have hst := run_storeCells_at P g (off + n) e (u8s (txt s)) 0 cur w hg (by simpa using hfit) h1
      simp only [Nat.add_zero] at hst
      refine ⟨.slice (some ⟨g, off, none⟩) (n + s.size) cap, w.setRow g (cur.toList.take (off + n) ++ u8s (txt s) ++ cur.toList.drop (off + n + (u8s (txt s)).length)).toArray, ?_,
        ⟨hlen, .inr ⟨g, off, cap, _, rfl, setRow_heap w g cur _ e _ hg, hroom, hcm, ?_, ?_⟩⟩, (Mod.refl (inBlock (.slice (some ⟨g, off, none⟩) n cap)) w).setRow (g := g) (fun _ => by simp [inBlock, Value.ownBlock]) _, .inl rfl⟩
      · simp [Builtin.append_, run_underlying ht, run_underlying hu, sizeOf, typeInfo, hi, Builtin.lenOf, hroom, hsize, hf, addr_add, hst]
      · simp only [List.size_toArray, List.length_append, List.length_take, List.length_drop, Array.length_toList]
        omega
      · have hcl : off + n ≤ cur.toList.length := by rw [Array.length_toList]; omega
        have e1 : List.drop off (List.take (off + n) cur.toList) = xs := by
          rw [List.drop_take, show off + n - off = n * 1 from by omega]; exact htk
        rw [List.append_assoc, List.drop_append_of_le_length (by rw [List.length_take]; omega), e1, ← List.append_assoc, ← hlen]
        exact List.take_left
  · obtain ⟨a, cap, hv, hle⟩ := hown.shape
    have hcap : cap < n + s.size := by
      rcases Nat.lt_or_ge cap (n + s.size) with h | h
      · exact h
      · exact absurd ⟨a, cap, hv, h⟩ hroom
    have h0 : 0 < s.size := by omega
    obtain ⟨w'', hw'', h2, h3⟩ := grown cap
    refine ⟨_, w'', ?_, h2, h3, .inr ⟨w.heap.size, rfl, Nat.le_refl _⟩⟩
    subst hw''
    rcases hown.2 with ⟨hv', rfl⟩ | ⟨g', off', cap', cur, hv', hg, hnc, hcm, hs, htk⟩
    · rw [hv'] at hv; cases hv
      have hxs : xs = [] := List.eq_nil_of_length_eq_zero (by simpa using hown.1)
      subst hxs
      rw [hv']
      have hfx : (s.data.map (fun b => Value.int IntKind.u8 (b.toNat : Int))) = (u8s (txt s)).toArray := by
        apply Array.ext'
        simp [u8s, txt]
      have := run_append_nil_string (P := P) (w := w) t u ty e i z ht hu hi hz s h0 (by simp only [maxLen] at hmax; omega) (by rw [hby]; omega)
      rw [hfx] at this
      simpa only [Nat.zero_add, Array.empty_append] using this
    · rw [hv'] at hv; cases hv
      rw [hv']
      have hrd := hown.rd
      obtain ⟨_, a2, c2, hv2, _, _, hcc⟩ := hrd
      rw [hv'] at hv2; cases hv2
      have hcc : ∀ (j : Nat) (u : Value), xs[j]? = some u → w.cell? ⟨g', off' + j, none⟩ = some u := fun j u hu => by
        have hn0 : 0 < n := by have := (List.getElem?_eq_some_iff.1 hu).1; have := hown.1; omega
        obtain ⟨g2, off2, he, hcc⟩ := hcc _ rfl hn0
        cases he
        exact hcc j u hu
      have hfo := run_firstCells_some (P := P) w.drew 1 n ⟨g', off', none⟩ n cap xs hown.1 (fun j u hu => by rw [addr_add]; exact hcc j u hu)
      have hn : ¬ (n + s.size ≤ cap) := by omega
      have h63' : ¬ (9223372036854775807 < ((n : Int) + (s.size : Int))) := by simp only [maxLen] at hmax; omega
      have h48' : ¬ (281474976710656 < Builtin.nextslicecap (n + s.size) cap * i.bytes) := by have := growslice_fits (bytes := i.bytes) hcap (by rw [hby]; omega); omega
      simp [Builtin.append_, run_underlying ht, run_underlying hu, sizeOf, typeInfo, zeroValue, hi, hz, Builtin.lenOf, hn, h63', h48', Question.forced, hsize, hfd, hfo, newRow, grownCap, Array.append_assoc]
      congr 2
      apply Array.ext'
      simp [List.append_assoc]
theorem wpList_append_str {P : Program} {ops : Array Oper} {rest : List Oper} {o : Oper} {a : Act} {w : World} {Q : Exit → Act → World → Prop}
    (hgd : o.guard = none) (s y : Operand) (t u : TypeId) (hop : o.op = Op.call { callee := Callee.builtin Builtin.append, args := #[s, y], argTypes := #[t, u] })
    (e : TypeId) (hT : SliceT P t e 1 1) (hu : P.underlying u = some .string)
    (v : Value) (n : Nat) (xs : List Value) (hs : a.eval s = v) (hown : OwnSl w e 1 v n xs) (x : ByteArray) (hy : a.eval y = .string x)
    (hbytes : n + x.size ≤ 140737488355328) (hmax : n + x.size ≤ maxLen)
    (hK : ∀ ad cap w', Appended w e 1 v (n + x.size) (xs ++ u8s (txt x)) (.slice ad (n + x.size) cap) w' → wpList P ops Q rest (a.put o.dst (.slice ad (n + x.size) cap)) w') : wpList P ops Q (o :: rest) a w := by
  refine wpList_plain hgd fun K hK' => ?_
  obtain ⟨ht, i0, z, hi, hz0, hz1, hz2, hzs⟩ := hT
  obtain ⟨v', w', hrun, r1, r2, r3⟩ := run_append_str (P := P) w t u o.type e i0 z ht hu hi hz0 hz1 hz2 hzs v n xs hown x hbytes hmax
  unfold Oper.wp execOp
  simp only [hop, resolve, invoke, builtin, Sem.run_bind, Sem.run_pure, Result.andThen_ok, List.map_toArray, List.map_cons, List.map_nil, hs, hy, hrun]
  obtain ⟨ad, cap, rfl, _⟩ := r1.shape
  exact hK' _ _ (hK ad cap w' ⟨r1, r2, r3⟩)
end Go.Proofs.YtloplmaekonenaaGreatDoor
