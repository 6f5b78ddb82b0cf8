/-
  The Reader's Event.
-/
import Derived.Test.YtmlnklbjjnjplaaRdv
import Derived.Test.YtmlnklbjjnjplaaRight
import Derived.Test.YtmlnklbjjnjplaaPlan2
namespace Go.Proofs.Ytmlnklbjjnjplaa
open Go.RowKit

/-- The text that bytes begin with. -/
def readT : List UInt8 → Option (ByteArray × List UInt8)
  | [] => none
  | x :: t => if x.toNat ≤ t.length then some (str (t.take x.toNat), t.drop x.toNat) else none
/-- So many attributes. -/
def readAtts : Nat → List UInt8 → Option (List Att × List UInt8)
  | 0, bs => some ([], bs)
  | n + 1, bs => (readT bs).bind fun p => (readV p.2).bind fun q => (readAtts n q.2).map fun z => (⟨p.1, q.1⟩ :: z.1, z.2)
theorem readAtts_zero (bs : List UInt8) : readAtts 0 bs = some ([], bs) := rfl
theorem readAtts_succ (n : Nat) (bs : List UInt8) : readAtts (n + 1) bs = (readT bs).bind fun p => (readV p.2).bind fun q => (readAtts n q.2).map fun z => (⟨p.1, q.1⟩ :: z.1, z.2) := rfl
/-- The event that bytes begin with. -/
def readE (bs : List UInt8) : Option ((ByteArray × List Att) × List UInt8) :=
  (readT bs).bind fun p => match p.2 with
    | [] => none
    | n :: t => (readAtts n.toNat t).bind fun z => if evRight z.1 then some ((p.1, z.1), z.2) else none

theorem rd_text2 (w : World) (r G : Nat) (bs : List UInt8) (h : Rdr w r G bs) :
    Calls Try.prog 20 #[.pointer (some ⟨r, 0, none⟩)] w fun e w' =>
      (readT bs = none ∧ e = .panicked short ∧ Mod (fun k => k = r) w w') ∨ (∃ s t, readT bs = some (s, t) ∧ s.size ≤ 255 ∧ e = .returned (.string s) ∧ Rdr w' r G t ∧ Mod (fun k => k = r) w w') := by
  refine (rd_text w r G bs h).mono ?_
  rintro e w' (⟨h1, h2, h3⟩ | ⟨x, t, rfl, h1, h2, h3, h4⟩)
  · refine .inl ⟨?_, h2, h3⟩
    cases bs with
    | nil => rfl
    | cons x t =>
      have hlt := h1 x t rfl
      show (if x.toNat ≤ t.length then some (str (t.take x.toNat), t.drop x.toNat) else none) = none
      exact if_neg (by omega)
  · refine .inr ⟨_, _, ?_, ?_, h2, h3, h4⟩
    · exact if_pos h1
    · show (str (t.take x.toNat)).data.size ≤ 255
      have := x.toNat_lt
      simp only [str, List.size_toArray, List.length_take]
      omega

theorem attrs_T : SliceT Try.prog 33 77 6 64 := sliceT (by kernel_rfl) (by kernel_rfl)

/-- What reading so many more comes to. -/
def Went (l : List Att) (t bs : List UInt8) (k : Nat) : Prop := ∀ m, readAtts (k + m) bs = (readAtts m t).map fun z => (l ++ z.1, z.2)
theorem Went.start (bs : List UInt8) : Went [] bs bs 0 := fun m => by rw [Nat.zero_add]; cases readAtts m bs <;> simp
theorem Went.next {l : List Att} {t bs : List UInt8} {k : Nat} (h : Went l t bs k) {s : ByteArray} {t1 t2 : List UInt8} {v : V} (h1 : readT t = some (s, t1)) (h2 : readV t1 = some (v, t2)) : Went (l ++ [⟨s, v⟩]) t2 bs (k + 1) := fun m => by
  rw [Nat.add_assoc, h (1 + m), Nat.add_comm 1 m, readAtts_succ, h1]
  simp only [Option.bind_some, h2]
  cases readAtts m t2 <;> simp
theorem Went.none {l : List Att} {t bs : List UInt8} {k n : Nat} (h : Went l t bs k) (hk : k < n) (hr : ∀ m, readAtts (m + 1) t = none) : readAtts n bs = none := by
  have := h (n - k - 1 + 1)
  rw [hr, show k + (n - k - 1 + 1) = n by omega] at this
  simpa using this
theorem Went.done {l : List Att} {t bs : List UInt8} {k : Nat} (h : Went l t bs k) : readAtts k bs = some (l, t) := by
  have := h 0
  rw [Nat.add_zero, readAtts_zero] at this
  simpa using this
theorem atts_snoc (l : List Att) (a : Att) : atts (l ++ [a]) = atts l ++ a.cells := by unfold atts; simp

set_option maxRecDepth 20000 in
set_option maxHeartbeats 2000000 in
theorem rd_event (w : World) (r G : Nat) (bs : List UInt8) (h : Rdr w r G bs) (hG : G < w.heap.size) :
    Calls Try.prog 21 #[.pointer (some ⟨r, 0, none⟩)] w fun e w' =>
      (readE bs = none ∧ e = .panicked short ∧ Mod (fun k => k = r) w w') ∨
      (∃ sc l t av, readE bs = some ((sc, l), t) ∧ sc.size ≤ 255 ∧ e = .returned (.agg #[.string sc, av]) ∧ OwnSl w' 77 6 av l.length (atts l) ∧ (∀ b, av.ownBlock = some b → w.heap.size ≤ b) ∧ Rdr w' r G t ∧ Mod (fun k => k = r) w w') := by
  have hrl := h.lt
  obtain ⟨wa, hwa⟩ : ∃ wa : World, wa = w.alloc (.cells #[.string ⟨#[]⟩, .slice none 0 0] 35) := ⟨_, rfl⟩
  have hma : Mod (fun _ => False) w wa := hwa ▸ (Mod.refl (fun _ => False) w).alloc _
  have hga : wa.heap[w.heap.size]? = some (.cells #[.string ⟨#[]⟩, .slice none 0 0] 35 (0, 0)) := hwa ▸ heap_alloc_new w _
  have hra := h.new hma hrl hG (by simp)
  have Hb := Lib.hid (rd_text2 wa r G bs hra)
  have Hma := Lib.hid hma
  have Hga := Lib.hid hga
  have Hwa := Lib.hid hwa
  clear h hma hra hga
  go_enter Try.func21, Try.ntmps21
  go_wp2_with fail
  rw [← Hwa.out]
  clear hwa
  refine Hb.out.mono ?_
  rintro e w1 (⟨h1, rfl, hm1⟩ | ⟨sc, t, h1, hsc, rfl, hr1, hm1⟩)
  · exact ⟨rfl, .inl ⟨by unfold readE; rw [h1]; rfl, rfl, (Hma.out.mono (by simp)).trans hm1 (fun _ _ h => h)⟩⟩
  have hm01 : Mod (fun k => k = r) w w1 := (Hma.out.mono (by simp)).trans hm1 (fun _ _ h => h)
  have hg1 := hm1.heap Hga.out (by omega)
  have hl1 : w.heap.size < w1.heap.size := (Array.getElem?_eq_some_iff.1 hg1).1
  obtain ⟨wb, hwb⟩ : ∃ wb : World, wb = w1.alloc (.cells #[.string sc, .slice none 0 0] 35) := ⟨_, rfl⟩
  have hmb : Mod (fun _ => False) w1 wb := hwb ▸ (Mod.refl (fun _ => False) w1).alloc _
  have hgb : wb.heap[w1.heap.size]? = some (.cells #[.string sc, .slice none 0 0] 35 (0, 0)) := hwb ▸ heap_alloc_new w1 _
  have hgb2 := hmb.heap hg1 (by simp)
  have hrb := hr1.new hmb (B := w.heap.size) hrl hG (by simp)
  have hm0b : Mod (fun k => k = r) w wb := hm01.trans (hmb.mono (by simp)) (fun _ _ h => h)
  have Hb2 := Lib.hid (rd_byte wb r G t hrb)
  have H1 := Lib.hid h1
  have Hm0b := Lib.hid hm0b
  have Hgb := Lib.hid hgb
  have Hgb2 := Lib.hid hgb2
  have Hwb := Lib.hid hwb
  have Hsc := Lib.hid hsc
  clear h1 hr1 hm1 hm01 hg1 hmb hgb hgb2 hrb hm0b Hb Hma Hga Hwa hsc
  go_wp2_with (first | (refine wpList_store_new rfl 35 (.tmp 3) (.tmp 6) rfl rfl _ 35 [.string sc, .slice none 0 0] rfl rfl (by kernel_rfl) (fun u hu => List.all_eq_true.1 rfl u hu) ?_) | fail)
  rw [← Hwb.out]
  clear hwb Hwb
  refine Hb2.out.mono ?_
  rintro e w2 (⟨rfl, rfl, rfl⟩ | ⟨n, t0, rfl, rfl, hr2, hm2⟩)
  · exact ⟨rfl, .inl ⟨by unfold readE; rw [H1.out]; rfl, rfl, Hm0b.out⟩⟩
  have hm02 : Mod (fun k => k = r) w w2 := Hm0b.out.trans hm2 (fun _ _ h => h)
  have hg3 := hm2.heap Hgb.out (by omega)
  have hg2 := hm2.heap Hgb2.out (by omega)
  have hl2 : w1.heap.size < w2.heap.size := (Array.getElem?_eq_some_iff.1 hg3).1
  have hn := n.toNat_lt
  have hn' : (n.toNat : Int) ≤ 255 := by omega
  have Hr2 := Lib.hid hr2
  have Hm02 := Lib.hid hm02
  have Hg3 := Lib.hid hg3
  have Hg2 := Lib.hid hg2
  obtain ⟨N, hN⟩ : ∃ N, n.toNat = N := ⟨_, rfl⟩
  have HN := Lib.hid hN
  rw [hN] at hn hn' ⊢
  clear hm2 hr2 hm02 hg3 hg2 Hb2 Hm0b Hgb Hgb2 hN
  go_wp2_with fail
  go_loopw [9] (fun i wr => ∃ k : Nat, ∃ l t av, k ≤ N ∧ i = .int .i64 k ∧ l.length = k ∧ Went l t t0 k ∧ (∀ x ∈ l, x.name.size ≤ 255) ∧ Rdr wr r G t ∧ wr.heap[w1.heap.size]? = some (.cells #[.string sc, av] 35 (0, 0)) ∧
      OwnSl wr 77 6 av l.length (atts l) ∧ (∀ b, av.ownBlock = some b → w2.heap.size ≤ b) ∧ Mod (fun k => k = r ∨ k = w1.heap.size) w2 wr) (fun i _ => N - (intOf i).toNat)
  case atStart => exact ⟨0, [], t0, .slice none 0 0, Nat.zero_le _, rfl, rfl, Went.start _, by simp, Hr2.out, Hg3.out, OwnSl.nil _ _ _, (fun b hb => by cases hb), Mod.refl _ _⟩
  case round =>
    obtain ⟨k, l, t, av, hkN, rfl, hlk, hwent, hnames, hrr, hgr, hown, hfresh, hmr⟩ := hrel
    have Hwent := Lib.hid hwent
    have Hnames := Lib.hid hnames
    have Hrr := Lib.hid hrr
    have Hgr := Lib.hid hgr
    have Hown := Lib.hid hown
    have Hfresh := Lib.hid hfresh
    have Hmr := Lib.hid hmr
    have Hlk := Lib.hid hlk
    have hlr : w2.heap.size ≤ wr.heap.size := hmr.size
    clear hwent hnames hrr hgr hown hfresh hmr hlk
    by_cases hlt : k < N
    · have hlt' : (k : Int) < N := by omega
      have c1 : wr.cell? ⟨w1.heap.size, 1, none⟩ = some av := cell_of Hgr.out rfl
      go_wp2_with fail
      refine wp_region_plan2 [0, 2, 4, 1] [3, 5, 6, 7] [8, 9, 10] (fun x => x.cell? ⟨w1.heap.size, 1, none⟩ = some av) (by kernel_rfl) (by kernel_rfl) (fun _ _ d _ _ h => (by cases d <;> exact h)) c1 ?_
      simp only [opsAt, List.filterMap_cons, List.filterMap_nil, List.getElem?_toArray, List.getElem?_cons_succ, List.getElem?_cons_zero]
      refine stillS_cons (v := ?_) rfl (fun w0 h0 => ?_) ?_
      rotate_left
      · go_simp; with_reducible rfl
      simp only [Act.put, List.setIfInBounds_toArray, List.set_cons_zero, List.set_cons_succ]
      refine stillS_cons (v := ?_) rfl (fun w0 h0 => ?_) ?_
      rotate_left
      · go_simp; with_reducible rfl
      simp only [Act.put, List.setIfInBounds_toArray, List.set_cons_zero, List.set_cons_succ]
      refine stillS_cons (v := ?_) rfl (fun w0 h0 => ?_) ?_
      rotate_left
      · go_simp; with_reducible rfl
      simp only [Act.put, List.setIfInBounds_toArray, List.set_cons_zero, List.set_cons_succ]
      refine stillS_cons (v := ?_) rfl (fun w0 h0 => ?_) ?_
      rotate_left
      · have h1 := h0 rfl; clear h0; go_simp; with_reducible rfl
      simp only [Act.put, List.setIfInBounds_toArray, List.set_cons_zero, List.set_cons_succ]
      refine stillS_nil ?_
      have hrd : Rdr wr.drew r G t := Hrr.out.new (Mod.refl (fun _ => False) wr).drew (B := w.heap.size) hrl hG (fun _ h => h.elim)
      have Ht := Lib.hid (rd_text2 wr.drew r G t hrd)
      clear hrd
      refine walkT_cons rfl (fun K' hK' => ?_)
      go_wp2_with fail
      refine Ht.out.mono ?_
      rintro e w3 (⟨h1, rfl, hm3⟩ | ⟨s, t1, h1, hs, rfl, hr3, hm3⟩)
      · refine ⟨rfl, .inl ⟨?_, rfl, ?_⟩⟩
        · unfold readE
          rw [H1.out]
          show ((readAtts n.toNat t0).bind _) = none
          rw [HN.out, Hwent.out.none hlt (fun m => by rw [readAtts_succ, h1]; rfl)]
          rfl
        · exact (Hm02.out.on Hmr.out (fun b hb => by omega)).on ((Mod.refl _ wr).drew.trans hm3 (fun _ _ h => h)) (fun b hb => .inl hb)
      have hm3' : Mod (fun k => k = r) wr w3 := (Mod.refl _ wr).drew.trans hm3 (fun _ _ h => h)
      have hg3 := hm3'.heap Hgr.out (by omega)
      have c3 : w3.cell? ⟨w1.heap.size, 1, none⟩ = some av := cell_of hg3 rfl
      refine hK' _ _ (fun _ => c3) ?_
      refine walkT_cons rfl (fun K'' hK'' => ?_)
      have Hv := Lib.hid (rd_value w3 r G t1 hr3 (by have := hm3'.size; omega))
      have Hs := Lib.hid hs
      have Hm3 := Lib.hid hm3'
      have Hg3' := Lib.hid hg3
      have Hh1 := Lib.hid h1
      clear hm3 hm3' hr3 hg3 h1 hK' Ht hs
      go_wp2_with fail
      refine Hv.out.mono ?_
      rintro e w4 (⟨h2, rfl, hm4⟩ | ⟨v, t2, h2, rfl, hr4, hm4⟩)
      · refine ⟨rfl, .inl ⟨?_, rfl, ?_⟩⟩
        · unfold readE
          rw [H1.out]
          show ((readAtts n.toNat t0).bind _) = none
          rw [HN.out, Hwent.out.none hlt (fun m => by rw [readAtts_succ, Hh1.out]; show (readV t1).bind _ = none; rw [h2]; rfl)]
          rfl
        · exact ((Hm02.out.on Hmr.out (fun b hb => by omega)).on Hm3.out (fun b hb => .inl hb)).on hm4 (fun b hb => .inl hb)
      have hg4 := hm4.heap Hg3'.out (by omega)
      have c4 : w4.cell? ⟨w1.heap.size, 1, none⟩ = some av := cell_of hg4 rfl
      have f4 : w4.frozen? ⟨w1.heap.size, 1, none⟩ = false := fr_of hg4
      refine hK'' _ _ (fun _ => c4) ?_
      obtain ⟨kind, int, num, text, yes⟩ := v
      unfold V.cells
      refine walkT_cons rfl (fun K3 hK3 => ?_)
      go_simp
      refine hK3 _ _ (fun _ => c4) ?_
      clear hK3 K3
      refine walkT_cons rfl (fun K3 hK3 => ?_)
      go_simp
      refine hK3 _ _ (fun _ => cell_new c4 _) ?_
      clear hK3 K3
      refine walkT_nil ?_
      have hown4 := (Hown.out.mod Hm3.out (fun b hb => by have := Hfresh.out b hb; omega)).mod hm4 (fun b hb => by have := Hfresh.out b hb; omega)
      have Hown4 := Lib.hid hown4
      have Hm4 := Lib.hid hm4
      have Hg4 := Lib.hid hg4
      have Hr4 := Lib.hid hr4
      have Hh2 := Lib.hid h2
      clear hown4 hm4 hg4 hr4 h2 hK'' Hv c1 c3
      have hlen : l.length ≤ 255 := by have := Hlk.out; omega
      have hne3 : ∀ b, inBlock av b → b ≠ w1.heap.size := fun b hb => by have := Hfresh.out b hb; omega
      have hone : ∀ u ∈ Att.cells ⟨s, kind, int, num, text, yes⟩, u.oneCell' = true := fun u hu => List.all_eq_true.1 (show (Att.cells ⟨s, kind, int, num, text, yes⟩).all (·.oneCell') = true from rfl) u hu
      have Hlen := Lib.hid hlen
      have Hne3 := Lib.hid hne3
      have Hone := Lib.hid hone
      clear hlen hne3 hone
      refine wpList_append_sl rfl (.tmp 12) (.tmp 18) 33 rfl 77 6 64 attrs_T av l.length (atts l) rfl (Hown4.out.alloc _) _ 1 (Att.cells ⟨s, kind, int, num, text, yes⟩) rfl (RdSl.one w4 (Att.cells ⟨s, kind, int, num, text, yes⟩) 77 rfl) Hone.out (by have := Hlen.out; omega) (by have := Hlen.out; unfold maxLen; omega) ?_
      intro ad cap w5 hA
      have hb5 := hA.2.1.heap (k := w1.heap.size) (heap_old Hg4.out) (fun h => Hne3.out _ h rfl)
      have k5 : w5.cell? ⟨w1.heap.size, 1, none⟩ = some av := cell_of hb5 rfl
      have f5 : w5.frozen? ⟨w1.heap.size, 1, none⟩ = false := fr_of hb5
      have HAp := Lib.hid hA
      have Hb5 := Lib.hid hb5
      clear hA hb5 c4 f4
      go_wp2_with fail
      go_roundw
      case rel =>
        have hsl := HAp.out.2.2
        have hal : Mod (fun _ => False) w4 (w4.alloc (.cells (Att.cells ⟨s, kind, int, num, text, yes⟩).toArray 77)) := (Mod.refl _ w4).alloc _
        have hm6 : Mod (fun k => k = w1.heap.size) w5 (w5.setCell ⟨w1.heap.size, 1, none⟩ (.slice ad (l.length + 1) cap)) := (Mod.refl (fun k => k = w1.heap.size) w5).setCell (fun _ => rfl) _
        have hl3 := Hm3.out.size
        have hl4 := Hm4.out.size
        have hnb : ∀ b, (Value.slice ad (l.length + 1) cap).ownBlock = some b → w2.heap.size ≤ b := fun b hb => by
          rcases hsl with h | ⟨q, h, hq⟩
          · exact Hfresh.out b (h.symm.trans hb)
          · rw [h] at hb
            cases hb
            have : (w4.alloc (.cells (Att.cells ⟨s, kind, int, num, text, yes⟩).toArray 77)).heap.size = w4.heap.size + 1 := by simp
            have hq' : w4.heap.size + 1 ≤ b := this ▸ hq
            omega
        refine ⟨k + 1, l ++ [⟨s, kind, int, num, text, yes⟩], t2, .slice ad (l.length + 1) cap, hlt, by go_num, by rw [List.length_append, Hlk.out]; rfl, Hwent.out.next Hh1.out Hh2.out, ?_, ?_, heap_set Hb5.out, ?_, hnb, ?_⟩
        · intro x hx
          rcases List.mem_append.1 hx with hx | hx
          · exact Hnames.out x hx
          · obtain rfl := List.mem_singleton.1 hx
            exact Hs.out
        · have h1 := Hr4.out.new hal (B := w.heap.size) hrl hG (fun _ h => h.elim)
          have h2 := h1.new HAp.out.2.1 (B := w.heap.size) hrl hG (fun b hb => by have := Hfresh.out b hb; omega)
          exact h2.new hm6 (B := w.heap.size) hrl hG (fun b hb => by omega)
        · rw [List.length_append, atts_snoc]
          exact HAp.out.1.setCell (fun hb => by have := hnb _ hb; simp at this; omega) _
        · exact ((((Hmr.out.on Hm3.out (fun b hb => .inl (.inl hb))).on Hm4.out (fun b hb => .inl (.inl hb))).on hal (fun b hb => hb.elim)).on HAp.out.2.1 (fun b hb => .inr (Hfresh.out b hb))).on hm6 (fun b hb => .inl (.inr hb))
      case measure => simp [intOf]; omega
    · obtain rfl : k = N := by omega
      obtain ⟨ava, avc, rfl, -⟩ := Hown.out.shape
      have hmw : Mod (fun k => k = r) w wr := Hm02.out.on Hmr.out (fun b hb => by omega)
      have hev := right_at sc (.slice ava l.length avc) l wr Hown.out.rd (by have := Hlk.out; omega) (fun x hx => by have := Hnames.out x hx; omega)
      have hgt := Hmr.out.heap Hg2.out (by omega)
      have hre : readE bs = if evRight l then some ((sc, l), t) else none := by
        unfold readE
        rw [H1.out]
        show ((readAtts n.toNat t0).bind _) = _
        rw [HN.out, Hwent.out.done]
        rfl
      have Hmw := Lib.hid hmw
      have Hev := Lib.hid hev
      have Hgt := Lib.hid hgt
      have Hre := Lib.hid hre
      clear hmw hev hgt hre
      go_wp2_with (first | (refine wpList_load_cells rfl 35 (.tmp 3) rfl w1.heap.size 0 rfl [.string sc, .slice ava l.length avc] (CellsAt.row Hgr.out) (by kernel_rfl) (by kernel_rfl) ?_) | fail)
      refine Hev.out.mono ?_
      rintro e w6 ⟨rfl, hm6⟩
      have hg36 := hm6.heap Hgr.out (by simp)
      have hg26 := hm6.heap Hgt.out (by simp)
      have HM6 := Lib.hid hm6
      have Hg36 := Lib.hid hg36
      have Hg26 := Lib.hid hg26
      clear hm6 hg36 hg26
      cases hE : evRight l with
      | false =>
        have hre := Hre.out
        rw [hE] at hre
        go_wp2
        exact ⟨rfl, .inl ⟨hre, rfl, Hmw.out.on HM6.out (fun _ h => h.elim)⟩⟩
      | true =>
        have hre := Hre.out
        rw [hE, if_pos rfl] at hre
        have HRE := Lib.hid hre
        clear hre
        go_wp2_with (first | (refine wpList_load_cells rfl 35 (.tmp 3) rfl w1.heap.size 0 rfl [.string sc, .slice ava l.length avc] (CellsAt.row Hg36.out) (by kernel_rfl) (by kernel_rfl) ?_) | (refine wpList_store_row rfl 35 (.tmp 2) (.tmp 27) rfl w.heap.size rfl _ 35 Hg26.out [.string sc, .slice ava l.length avc] rfl 2 rfl rfl (by kernel_rfl) rfl ?_; intro w7 h7 hm7; have H7 := Lib.hid h7; have Hm7 := Lib.hid hm7; clear h7 hm7) | fail)
        refine bodyPost_cell rfl w.heap.size rfl _ (CellsAt.row H7.out) (by kernel_rfl) (by kernel_rfl) rfl (.inr ⟨sc, l, t, .slice ava l.length avc, HRE.out, Hsc.out, rfl, ?_, ?_, ?_, ?_⟩)
        · exact (Hown.out.mod HM6.out (fun _ _ h => h.elim)).mod Hm7.out (fun b hb => by have := Hfresh.out b hb; omega)
        · exact fun b hb => by have := Hfresh.out b hb; omega
        · exact (Hrr.out.new HM6.out (B := w.heap.size) hrl hG (fun _ h => h.elim)).new Hm7.out (B := w.heap.size) hrl hG (fun b hb => by omega)
        · exact (Hmw.out.on HM6.out (fun _ h => h.elim)).on Hm7.out (fun b hb => .inr (by omega))
end Go.Proofs.Ytmlnklbjjnjplaa
