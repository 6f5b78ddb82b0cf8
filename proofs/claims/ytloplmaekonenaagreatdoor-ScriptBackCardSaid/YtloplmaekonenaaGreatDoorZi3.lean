/-
  The Reader's Value.
-/
import Derived.Test.YtloplmaekonenaaGreatDoorZi2
namespace Go.Proofs.YtloplmaekonenaaGreatDoor
set_option maxRecDepth 20000
open Go.RowKit
def readV : List UInt8 → Option (V × List UInt8)
  | [] => none
  | k :: t =>
    if k.toNat = 0 then (if 8 ≤ t.length then some ({ V.zero with kind := 0, int := wrap64 (longOf (t.take 8) : Nat) }, t.drop 8) else none)
    else if k.toNat = 1 then (if 8 ≤ t.length ∧ (backB (longOf (t.take 8))).2 = true then some ({ V.zero with kind := 1, num := (backB (longOf (t.take 8))).1 }, t.drop 8) else none)
    else if k.toNat = 2 then (match t with | [] => none | n :: t => if n.toNat ≤ t.length ∧ n.toNat ≤ 40 then some ({ V.zero with kind := 2, text := str (t.take n.toNat) }, t.drop n.toNat) else none)
    else if k.toNat = 3 then (match t with | [] => none | n :: t => if n.toNat ≤ 1 then some ({ V.zero with kind := 3, yes := n.toNat == 1 }, t) else none)
    else none
theorem readV_cons (k : UInt8) (t : List UInt8) : readV (k :: t) =
    if k.toNat = 0 then (if 8 ≤ t.length then some ({ V.zero with kind := 0, int := wrap64 (longOf (t.take 8) : Nat) }, t.drop 8) else none)
    else if k.toNat = 1 then (if 8 ≤ t.length ∧ (backB (longOf (t.take 8))).2 = true then some ({ V.zero with kind := 1, num := (backB (longOf (t.take 8))).1 }, t.drop 8) else none)
    else if k.toNat = 2 then (match t with | [] => none | n :: t => if n.toNat ≤ t.length ∧ n.toNat ≤ 40 then some ({ V.zero with kind := 2, text := str (t.take n.toNat) }, t.drop n.toNat) else none)
    else if k.toNat = 3 then (match t with | [] => none | n :: t => if n.toNat ≤ 1 then some ({ V.zero with kind := 3, yes := n.toNat == 1 }, t) else none)
    else none := rfl
theorem Mod.on {F G : Nat → Prop} {w w' w'' : World} (h : Mod F w w') (k : Mod G w' w'') (hG : ∀ b, G b → F b ∨ w.heap.size ≤ b) : Mod F w w'' :=
  h.trans k fun b hb hg => (hG b hg).elim id fun h => by omega
set_option maxRecDepth 20000 in
set_option maxHeartbeats 1000000 in
theorem rd_value (w : World) (r G : Nat) (bs : List UInt8) (h : Rdr w r G bs) (hG : G < w.heap.size) :
    Calls Tryz.prog 145 #[.pointer (some ⟨r, 0, none⟩)] w fun e w' =>
      (readV bs = none ∧ e = .panicked short ∧ Mod (fun k => k = r) w w') ∨ (∃ v t, readV bs = some (v, t) ∧ e = .returned (.agg v.cells.toArray) ∧ Rdr w' r G t ∧ Mod (fun k => k = r) w w') := by
  have hrl := h.lt
  obtain ⟨wa, hwa⟩ : ∃ wa : World, wa = w.alloc (.cells #[.int .i64 0, .int .i64 0, .float .f64 0, .string ⟨#[]⟩, .bool false] 79) := ⟨_, rfl⟩
  have hma : Mod (fun _ => False) w wa := hwa ▸ (Mod.refl (fun _ => False) w).alloc _
  have hga : wa.heap[w.heap.size]? = some (.cells #[.int .i64 0, .int .i64 0, .float .f64 0, .string ⟨#[]⟩, .bool false] 79 (0, 0)) := hwa ▸ heap_alloc_new w _
  have hra := h.new hma hrl hG (by simp)
  have hb := rd_byte wa r G bs hra
  have Hb := Lib.hid hb
  have Hma := Lib.hid hma
  have Hga := Lib.hid hga
  have Hwa := Lib.hid hwa
  clear h hma hra hga hb
  go_enter Tryz.func145, Tryz.ntmps145
  go_wp2_with fail
  rw [← Hwa.out]
  clear hwa
  refine Hb.out.mono ?_
  rintro e w1 (⟨rfl, rfl, rfl⟩ | ⟨k, t, rfl, rfl, hr1, hm1⟩)
  · exact ⟨rfl, .inl ⟨rfl, rfl, Hma.out.mono (by simp)⟩⟩
  have hm01 : Mod (fun k => k = r) w w1 := (Hma.out.mono (by simp)).trans hm1 (fun _ _ h => h)
  have hg1 := hm1.heap Hga.out (by omega)
  have hl1 : w.heap.size < w1.heap.size := (Array.getElem?_eq_some_iff.1 hg1).1
  have Hr1 := Lib.hid hr1
  have Hm1 := Lib.hid hm01
  have Hg1 := Lib.hid hg1
  have hkt := k.toNat_lt
  have hk' : (k.toNat : Int) ≤ 255 := by omega
  obtain ⟨kn, hkn⟩ : ∃ kn, k.toNat = kn := ⟨_, rfl⟩
  have Hkn := Lib.hid hkn
  rw [hkn] at hk' ⊢
  clear hr1 hm1 hm01 hg1 Hb Hma Hga Hwa hkn hkt
  rcases (by omega : kn = 0 ∨ kn = 1 ∨ kn = 2 ∨ kn = 3 ∨ 4 ≤ kn) with rfl | rfl | rfl | rfl | h4
  · have hma := (Mod.refl (fun _ => False) w1).alloc (.cells #[.int .i64 0, .int .i64 0, .float .f64 0, .string ⟨#[]⟩, .bool false] 79)
    have Hma := Lib.hid hma
    have hw2r := Hr1.out.new hma (by omega) (by omega) (fun _ h => h.elim)
    have Hlo := Lib.hid (rd_long _ r G t hw2r)
    clear hma hw2r
    go_wp2_with (first | (refine wpList_store_new rfl 79 (.tmp 3) (.tmp 9) rfl rfl _ 79 [.int .i64 0, .int .i64 0, .float .f64 0, .string ⟨#[]⟩, .bool false] rfl rfl (by kernel_rfl) (fun u hu => List.all_eq_true.1 rfl u hu) ?_) | fail)
    refine Hlo.out.mono ?_
    rintro e w2 (⟨hlt, rfl, hm2⟩ | ⟨hle, rfl, hr2, hm2⟩)
    · exact ⟨rfl, .inl ⟨by rw [readV_cons, Hkn.out, if_pos rfl, if_neg (by omega)], rfl, (Hm1.out.on Hma.out (fun _ h => h.elim)).on hm2 (fun _ h => .inl h)⟩⟩
    obtain ⟨N, hN⟩ : ∃ N : Nat, longOf (t.take 8) = N := ⟨_, rfl⟩
    rw [hN]
    have HN := Lib.hid hN
    have Hle := Lib.hid hle
    clear hN hle Hlo
    have hg3 := hm2.heap (heap_alloc_new w1 _) (by omega)
    have hg2 := hm2.heap (heap_old Hg1.out) (by omega)
    have c3 : w2.cell? ⟨w1.heap.size, 1, none⟩ = some (.int .i64 0) := cell_of hg3 rfl
    have f3 : w2.frozen? ⟨w1.heap.size, 1, none⟩ = false := fr_of hg3
    have Hr2 := Lib.hid hr2
    have Hm2 := Lib.hid hm2
    have Hg3 := Lib.hid hg3
    have Hg2 := Lib.hid hg2
    clear hr2 hm2 hg3 hg2
    have hw3 : Mod (fun k => k = w1.heap.size) w2 (w2.setCell ⟨w1.heap.size, 1, none⟩ (.int .i64 (wrap64 N))) := (Mod.refl (fun k => k = w1.heap.size) w2).setCell (fun _ => rfl) _
    have hg3' : (w2.setCell ⟨w1.heap.size, 1, none⟩ (.int .i64 (wrap64 N))).heap[w1.heap.size]? = some (.cells #[.int .i64 0, .int .i64 (wrap64 N), .float .f64 0, .string ⟨#[]⟩, .bool false] 79 (0, 0)) := heap_set Hg3.out
    have hg2' := hw3.heap Hg2.out (by omega)
    have HM3 := Lib.hid hw3
    have HG3 := Lib.hid hg3'
    have HG2 := Lib.hid hg2'
    clear hw3 hg3' hg2'
    go_wp2_with (first | (refine wpList_load_cells rfl 79 (.tmp 3) rfl w1.heap.size 0 rfl [.int .i64 0, .int .i64 (wrap64 N), .float .f64 0, .string ⟨#[]⟩, .bool false] (CellsAt.row HG3.out) (by kernel_rfl) (by kernel_rfl) ?_) | fail)
    refine (value_right ⟨0, wrap64 N, 0, ⟨#[]⟩, false⟩ _).mono ?_
    rintro e w4 ⟨rfl, hm4⟩
    rw [show V.right ⟨0, wrap64 N, 0, ⟨#[]⟩, false⟩ = true from rfl]
    have hg34 := hm4.heap HG3.out (by simp)
    have hg24 := hm4.heap HG2.out (by simp)
    have Hm4 := Lib.hid hm4
    have HG34 := Lib.hid hg34
    have HG24 := Lib.hid hg24
    clear hm4 hg34 hg24 c3 f3
    go_wp2_with (first | (refine wpList_load_cells rfl 79 (.tmp 3) rfl w1.heap.size 0 rfl [.int .i64 0, .int .i64 (wrap64 N), .float .f64 0, .string ⟨#[]⟩, .bool false] (CellsAt.row HG34.out) (by kernel_rfl) (by kernel_rfl) ?_) | (refine wpList_store_row rfl 79 (.tmp 2) (.tmp 55) rfl w.heap.size rfl _ 79 HG24.out [.int .i64 0, .int .i64 (wrap64 N), .float .f64 0, .string ⟨#[]⟩, .bool false] rfl 5 rfl rfl (by kernel_rfl) rfl ?_; intro w5 h5 hm5; have H5 := Lib.hid h5; have Hm5 := Lib.hid hm5; clear h5 hm5) | fail)
    refine bodyPost_cell rfl w.heap.size rfl _ (CellsAt.row H5.out) (by kernel_rfl) (by kernel_rfl) rfl (.inr ⟨⟨0, wrap64 N, 0, ⟨#[]⟩, false⟩, t.drop 8, ?_, rfl, ?_, ?_⟩)
    · rw [readV_cons, Hkn.out, if_pos rfl, if_pos Hle.out, HN.out]
      rfl
    · have h3 := Hr2.out.new HM3.out (B := w1.heap.size) (by omega) (by omega) (fun k hk => by omega)
      have h4 := h3.new Hm4.out (B := w1.heap.size) (by omega) (by omega) (fun k hk => hk.elim)
      exact h4.new Hm5.out (B := w.heap.size) hrl hG (fun k hk => by omega)
    · exact ((((Hm1.out.on Hma.out (fun _ h => h.elim)).on Hm2.out (fun _ h => .inl h)).on HM3.out (fun k hk => .inr (by omega))).on Hm4.out (fun _ h => h.elim)).on Hm5.out (fun k hk => .inr (by omega))
  · have hma := (Mod.refl (fun _ => False) w1).alloc (.cells #[.int .i64 1, .int .i64 0, .float .f64 0, .string ⟨#[]⟩, .bool false] 79)
    have Hma := Lib.hid hma
    have hw2r := Hr1.out.new hma (by omega) (by omega) (fun _ h => h.elim)
    have Hlo := Lib.hid (rd_long _ r G t hw2r)
    clear hma hw2r
    go_wp2_with (first | (refine wpList_store_new rfl 79 (.tmp 3) (.tmp 9) rfl rfl _ 79 [.int .i64 1, .int .i64 0, .float .f64 0, .string ⟨#[]⟩, .bool false] rfl rfl (by kernel_rfl) (fun u hu => List.all_eq_true.1 rfl u hu) ?_) | fail)
    refine Hlo.out.mono ?_
    rintro e w2 (⟨hlt, rfl, hm2⟩ | ⟨hle, rfl, hr2, hm2⟩)
    · exact ⟨rfl, .inl ⟨by rw [readV_cons, Hkn.out, if_neg (by decide), if_pos rfl, if_neg (by omega)], rfl, (Hm1.out.on Hma.out (fun _ h => h.elim)).on hm2 (fun _ h => .inl h)⟩⟩
    have hN64 := longOf_lt (t.take 8)
    rw [List.length_take, Nat.min_eq_left hle] at hN64
    obtain ⟨N, hN⟩ : ∃ N : Nat, longOf (t.take 8) = N := ⟨_, rfl⟩
    rw [hN] at hN64 ⊢
    have hbk := back_at N (by omega) w2
    obtain ⟨⟨x, ok⟩, hp⟩ : ∃ p, backB N = p := ⟨_, rfl⟩
    rw [hp] at hbk
    have HN := Lib.hid hN
    have HP := Lib.hid hp
    have Hbk := Lib.hid hbk
    have Hle := Lib.hid hle
    clear hN hle Hlo hN64 hp hbk
    have hg3 := hm2.heap (heap_alloc_new w1 _) (by omega)
    have hg2 := hm2.heap (heap_old Hg1.out) (by omega)
    have c3 : w2.cell? ⟨w1.heap.size, 2, none⟩ = some (.float .f64 0) := cell_of hg3 rfl
    have f3 : w2.frozen? ⟨w1.heap.size, 2, none⟩ = false := fr_of hg3
    have Hr2 := Lib.hid hr2
    have Hm2 := Lib.hid hm2
    have Hg3 := Lib.hid hg3
    have Hg2 := Lib.hid hg2
    clear hr2 hm2 hg3 hg2
    go_wp2_with fail
    refine Hbk.out.mono ?_
    rintro e w2' ⟨rfl, rfl⟩
    cases ok with
    | false =>
      go_wp2
      exact ⟨rfl, .inl ⟨by rw [readV_cons, Hkn.out, if_neg (by decide), if_pos rfl, HN.out, HP.out, if_neg (by simp)], rfl, (Hm1.out.on Hma.out (fun _ h => h.elim)).on Hm2.out (fun _ h => .inl h)⟩⟩
    | true =>
      have hw3 : Mod (fun k => k = w1.heap.size) w2' (w2'.setCell ⟨w1.heap.size, 2, none⟩ (.float .f64 x)) := (Mod.refl (fun k => k = w1.heap.size) w2').setCell (fun _ => rfl) _
      have hg3' : (w2'.setCell ⟨w1.heap.size, 2, none⟩ (.float .f64 x)).heap[w1.heap.size]? = some (.cells #[.int .i64 1, .int .i64 0, .float .f64 x, .string ⟨#[]⟩, .bool false] 79 (0, 0)) := heap_set Hg3.out
      have hg2' := hw3.heap Hg2.out (by omega)
      have HM3 := Lib.hid hw3
      have HG3 := Lib.hid hg3'
      have HG2 := Lib.hid hg2'
      clear hw3 hg3' hg2'
      go_wp2_with (first | (refine wpList_load_cells rfl 79 (.tmp 3) rfl w1.heap.size 0 rfl [.int .i64 1, .int .i64 0, .float .f64 x, .string ⟨#[]⟩, .bool false] (CellsAt.row HG3.out) (by kernel_rfl) (by kernel_rfl) ?_) | fail)
      refine (value_right ⟨1, 0, x, ⟨#[]⟩, false⟩ _).mono ?_
      rintro e w4 ⟨rfl, hm4⟩
      rw [show V.right ⟨1, 0, x, ⟨#[]⟩, false⟩ = true from rfl]
      have hg34 := hm4.heap HG3.out (by simp)
      have hg24 := hm4.heap HG2.out (by simp)
      have Hm4 := Lib.hid hm4
      have HG34 := Lib.hid hg34
      have HG24 := Lib.hid hg24
      clear hm4 hg34 hg24 c3 f3
      go_wp2_with (first | (refine wpList_load_cells rfl 79 (.tmp 3) rfl w1.heap.size 0 rfl [.int .i64 1, .int .i64 0, .float .f64 x, .string ⟨#[]⟩, .bool false] (CellsAt.row HG34.out) (by kernel_rfl) (by kernel_rfl) ?_) | (refine wpList_store_row rfl 79 (.tmp 2) (.tmp 55) rfl w.heap.size rfl _ 79 HG24.out [.int .i64 1, .int .i64 0, .float .f64 x, .string ⟨#[]⟩, .bool false] rfl 5 rfl rfl (by kernel_rfl) rfl ?_; intro w5 h5 hm5; have H5 := Lib.hid h5; have Hm5 := Lib.hid hm5; clear h5 hm5) | fail)
      refine bodyPost_cell rfl w.heap.size rfl _ (CellsAt.row H5.out) (by kernel_rfl) (by kernel_rfl) rfl (.inr ⟨⟨1, 0, x, ⟨#[]⟩, false⟩, t.drop 8, ?_, rfl, ?_, ?_⟩)
      · rw [readV_cons, Hkn.out, if_neg (by decide), if_pos rfl, HN.out, HP.out, if_pos ⟨Hle.out, rfl⟩]
        rfl
      · have h3 := Hr2.out.new HM3.out (B := w1.heap.size) (by omega) (by omega) (fun k hk => by omega)
        have h4 := h3.new Hm4.out (B := w1.heap.size) (by omega) (by omega) (fun k hk => hk.elim)
        exact h4.new Hm5.out (B := w.heap.size) hrl hG (fun k hk => by omega)
      · exact ((((Hm1.out.on Hma.out (fun _ h => h.elim)).on Hm2.out (fun _ h => .inl h)).on HM3.out (fun k hk => .inr (by omega))).on Hm4.out (fun _ h => h.elim)).on Hm5.out (fun k hk => .inr (by omega))
  · have hma := (Mod.refl (fun _ => False) w1).alloc (.cells #[.int .i64 2, .int .i64 0, .float .f64 0, .string ⟨#[]⟩, .bool false] 79)
    have Hma := Lib.hid hma
    have hw2r := Hr1.out.new hma (by omega) (by omega) (fun _ h => h.elim)
    have Htx := Lib.hid (rd_text _ r G t hw2r)
    clear hma hw2r
    go_wp2_with (first | (refine wpList_store_new rfl 79 (.tmp 3) (.tmp 9) rfl rfl _ 79 [.int .i64 2, .int .i64 0, .float .f64 0, .string ⟨#[]⟩, .bool false] rfl rfl (by kernel_rfl) (fun u hu => List.all_eq_true.1 rfl u hu) ?_) | fail)
    refine Htx.out.mono ?_
    rintro e w2 (⟨hlt, rfl, hm2⟩ | ⟨n, t2, rfl, hle, rfl, hr2, hm2⟩)
    · refine ⟨rfl, .inl ⟨?_, rfl, (Hm1.out.on Hma.out (fun _ h => h.elim)).on hm2 (fun _ h => .inl h)⟩⟩
      rw [readV_cons, Hkn.out, if_neg (by decide), if_neg (by decide), if_pos rfl]
      cases t with
      | nil => rfl
      | cons n t2 =>
        have := hlt n t2 rfl
        exact if_neg (by omega)
    obtain ⟨s, hs⟩ : ∃ s, str (t2.take n.toNat) = s := ⟨_, rfl⟩
    have hsz : s.size = n.toNat := by rw [← hs]; simp [str, ByteArray.size]; omega
    rw [hs]
    have Hs := Lib.hid hs
    have Hsz := Lib.hid hsz
    have Hle := Lib.hid hle
    clear hs hsz hle Htx
    have hg3 := hm2.heap (heap_alloc_new w1 _) (by omega)
    have hg2 := hm2.heap (heap_old Hg1.out) (by omega)
    have c3 : w2.cell? ⟨w1.heap.size, 3, none⟩ = some (.string ⟨#[]⟩) := cell_of hg3 rfl
    have f3 : w2.frozen? ⟨w1.heap.size, 3, none⟩ = false := fr_of hg3
    have Hr2 := Lib.hid hr2
    have Hm2 := Lib.hid hm2
    have Hg3 := Lib.hid hg3
    have Hg2 := Lib.hid hg2
    clear hr2 hm2 hg3 hg2
    have hw3 : Mod (fun k => k = w1.heap.size) w2 (w2.setCell ⟨w1.heap.size, 3, none⟩ (.string s)) := (Mod.refl (fun k => k = w1.heap.size) w2).setCell (fun _ => rfl) _
    have hg3' : (w2.setCell ⟨w1.heap.size, 3, none⟩ (.string s)).heap[w1.heap.size]? = some (.cells #[.int .i64 2, .int .i64 0, .float .f64 0, .string s, .bool false] 79 (0, 0)) := heap_set Hg3.out
    have hg2' := hw3.heap Hg2.out (by omega)
    have HM3 := Lib.hid hw3
    have HG3 := Lib.hid hg3'
    have HG2 := Lib.hid hg2'
    clear hw3 hg3' hg2'
    go_wp2_with (first | (refine wpList_load_cells rfl 79 (.tmp 3) rfl w1.heap.size 0 rfl [.int .i64 2, .int .i64 0, .float .f64 0, .string s, .bool false] (CellsAt.row HG3.out) (by kernel_rfl) (by kernel_rfl) ?_) | fail)
    by_cases h40 : n.toNat ≤ 40
    · have H40 := Lib.hid h40
      clear h40
      refine (value_right ⟨2, 0, 0, s, false⟩ _).mono ?_
      rintro e w4 ⟨rfl, hm4⟩
      rw [show V.right ⟨2, 0, 0, s, false⟩ = true from by unfold V.right; rw [decide_eq_true (show (0 : Int) ≤ 2 by decide), decide_eq_true (show (2 : Int) ≤ 3 by decide), decide_eq_true (by show s.size ≤ 40; rw [Hsz.out]; exact H40.out)]; rfl]
      have hg34 := hm4.heap HG3.out (by simp)
      have hg24 := hm4.heap HG2.out (by simp)
      have Hm4 := Lib.hid hm4
      have HG34 := Lib.hid hg34
      have HG24 := Lib.hid hg24
      clear hm4 hg34 hg24 c3 f3
      go_wp2_with (first | (refine wpList_load_cells rfl 79 (.tmp 3) rfl w1.heap.size 0 rfl [.int .i64 2, .int .i64 0, .float .f64 0, .string s, .bool false] (CellsAt.row HG34.out) (by kernel_rfl) (by kernel_rfl) ?_) | (refine wpList_store_row rfl 79 (.tmp 2) (.tmp 55) rfl w.heap.size rfl _ 79 HG24.out [.int .i64 2, .int .i64 0, .float .f64 0, .string s, .bool false] rfl 5 rfl rfl (by kernel_rfl) rfl ?_; intro w5 h5 hm5; have H5 := Lib.hid h5; have Hm5 := Lib.hid hm5; clear h5 hm5) | fail)
      refine bodyPost_cell rfl w.heap.size rfl _ (CellsAt.row H5.out) (by kernel_rfl) (by kernel_rfl) rfl (.inr ⟨⟨2, 0, 0, s, false⟩, t2.drop n.toNat, ?_, rfl, ?_, ?_⟩)
      · rw [readV_cons, Hkn.out, if_neg (by decide), if_neg (by decide), if_pos rfl]
        show (if n.toNat ≤ t2.length ∧ n.toNat ≤ 40 then _ else _) = _
        rw [if_pos ⟨Hle.out, H40.out⟩, Hs.out]
        rfl
      · have h3 := Hr2.out.new HM3.out (B := w1.heap.size) (by omega) (by omega) (fun k hk => by omega)
        have h4 := h3.new Hm4.out (B := w1.heap.size) (by omega) (by omega) (fun k hk => hk.elim)
        exact h4.new Hm5.out (B := w.heap.size) hrl hG (fun k hk => by omega)
      · exact ((((Hm1.out.on Hma.out (fun _ h => h.elim)).on Hm2.out (fun _ h => .inl h)).on HM3.out (fun k hk => .inr (by omega))).on Hm4.out (fun _ h => h.elim)).on Hm5.out (fun k hk => .inr (by omega))
    · have H40 := Lib.hid h40
      clear h40
      refine (value_right ⟨2, 0, 0, s, false⟩ _).mono ?_
      rintro e w4 ⟨rfl, hm4⟩
      rw [show V.right ⟨2, 0, 0, s, false⟩ = false from by unfold V.right; rw [decide_eq_true (show (0 : Int) ≤ 2 by decide), decide_eq_true (show (2 : Int) ≤ 3 by decide), decide_eq_false (by show ¬ s.size ≤ 40; rw [Hsz.out]; exact H40.out)]; rfl]
      have Hm4 := Lib.hid hm4
      clear hm4
      go_wp2
      refine ⟨rfl, .inl ⟨?_, rfl, (((Hm1.out.on Hma.out (fun _ h => h.elim)).on Hm2.out (fun _ h => .inl h)).on HM3.out (fun k hk => .inr (by omega))).on Hm4.out (fun _ h => h.elim)⟩⟩
      rw [readV_cons, Hkn.out, if_neg (by decide), if_neg (by decide), if_pos rfl]
      exact if_neg (fun h => H40.out h.2)
  · have hma := (Mod.refl (fun _ => False) w1).alloc (.cells #[.int .i64 3, .int .i64 0, .float .f64 0, .string ⟨#[]⟩, .bool false] 79)
    have Hma := Lib.hid hma
    have hw2r := Hr1.out.new hma (by omega) (by omega) (fun _ h => h.elim)
    have Hby := Lib.hid (rd_byte _ r G t hw2r)
    clear hma hw2r
    go_wp2_with (first | (refine wpList_store_new rfl 79 (.tmp 3) (.tmp 9) rfl rfl _ 79 [.int .i64 3, .int .i64 0, .float .f64 0, .string ⟨#[]⟩, .bool false] rfl rfl (by kernel_rfl) (fun u hu => List.all_eq_true.1 rfl u hu) ?_) | fail)
    refine Hby.out.mono ?_
    rintro e w2 (⟨rfl, rfl, rfl⟩ | ⟨n, t2, rfl, rfl, hr2, hm2⟩)
    · refine ⟨rfl, .inl ⟨?_, rfl, Hm1.out.on Hma.out (fun _ h => h.elim)⟩⟩
      rw [readV_cons, Hkn.out, if_neg (by decide), if_neg (by decide), if_neg (by decide), if_pos rfl]
    have hn8 := n.toNat_lt
    obtain ⟨nn, hnn⟩ : ∃ nn, n.toNat = nn := ⟨_, rfl⟩
    rw [hnn] at hn8 ⊢
    have Hnn := Lib.hid hnn
    clear hnn Hby
    have hg3 := hm2.heap (heap_alloc_new w1 _) (by omega)
    have hg2 := hm2.heap (heap_old Hg1.out) (by omega)
    have c3 : w2.cell? ⟨w1.heap.size, 4, none⟩ = some (.bool false) := cell_of hg3 rfl
    have f3 : w2.frozen? ⟨w1.heap.size, 4, none⟩ = false := fr_of hg3
    have Hr2 := Lib.hid hr2
    have Hm2 := Lib.hid hm2
    have Hg3 := Lib.hid hg3
    have Hg2 := Lib.hid hg2
    clear hr2 hm2 hg3 hg2
    rcases (by omega : nn = 0 ∨ nn = 1 ∨ 2 ≤ nn) with rfl | rfl | h2
    · have hw3 : Mod (fun k => k = w1.heap.size) w2 (w2.setCell ⟨w1.heap.size, 4, none⟩ (.bool false)) := (Mod.refl (fun k => k = w1.heap.size) w2).setCell (fun _ => rfl) _
      have hg3' : (w2.setCell ⟨w1.heap.size, 4, none⟩ (.bool false)).heap[w1.heap.size]? = some (.cells #[.int .i64 3, .int .i64 0, .float .f64 0, .string ⟨#[]⟩, .bool false] 79 (0, 0)) := heap_set Hg3.out
      have hg2' := hw3.heap Hg2.out (by omega)
      have HM3 := Lib.hid hw3
      have HG3 := Lib.hid hg3'
      have HG2 := Lib.hid hg2'
      clear hw3 hg3' hg2'
      go_wp2_with (first | (refine wpList_load_cells rfl 79 (.tmp 3) rfl w1.heap.size 0 rfl [.int .i64 3, .int .i64 0, .float .f64 0, .string ⟨#[]⟩, .bool false] (CellsAt.row HG3.out) (by kernel_rfl) (by kernel_rfl) ?_) | fail)
      refine (value_right ⟨3, 0, 0, ⟨#[]⟩, false⟩ _).mono ?_
      rintro e w4 ⟨rfl, hm4⟩
      rw [show V.right ⟨3, 0, 0, ⟨#[]⟩, false⟩ = true from rfl]
      have hg34 := hm4.heap HG3.out (by simp)
      have hg24 := hm4.heap HG2.out (by simp)
      have Hm4 := Lib.hid hm4
      have HG34 := Lib.hid hg34
      have HG24 := Lib.hid hg24
      clear hm4 hg34 hg24 c3 f3
      go_wp2_with (first | (refine wpList_load_cells rfl 79 (.tmp 3) rfl w1.heap.size 0 rfl [.int .i64 3, .int .i64 0, .float .f64 0, .string ⟨#[]⟩, .bool false] (CellsAt.row HG34.out) (by kernel_rfl) (by kernel_rfl) ?_) | (refine wpList_store_row rfl 79 (.tmp 2) (.tmp 55) rfl w.heap.size rfl _ 79 HG24.out [.int .i64 3, .int .i64 0, .float .f64 0, .string ⟨#[]⟩, .bool false] rfl 5 rfl rfl (by kernel_rfl) rfl ?_; intro w5 h5 hm5; have H5 := Lib.hid h5; have Hm5 := Lib.hid hm5; clear h5 hm5) | fail)
      refine bodyPost_cell rfl w.heap.size rfl _ (CellsAt.row H5.out) (by kernel_rfl) (by kernel_rfl) rfl (.inr ⟨⟨3, 0, 0, ⟨#[]⟩, false⟩, t2, ?_, rfl, ?_, ?_⟩)
      · rw [readV_cons, Hkn.out, if_neg (by decide), if_neg (by decide), if_neg (by decide), if_pos rfl]
        show (if n.toNat ≤ 1 then _ else _) = _
        rw [Hnn.out, if_pos (by decide)]
        rfl
      · have h3 := Hr2.out.new HM3.out (B := w1.heap.size) (by omega) (by omega) (fun k hk => by omega)
        have h4 := h3.new Hm4.out (B := w1.heap.size) (by omega) (by omega) (fun k hk => hk.elim)
        exact h4.new Hm5.out (B := w.heap.size) hrl hG (fun k hk => by omega)
      · exact ((((Hm1.out.on Hma.out (fun _ h => h.elim)).on Hm2.out (fun _ h => .inl h)).on HM3.out (fun k hk => .inr (by omega))).on Hm4.out (fun _ h => h.elim)).on Hm5.out (fun k hk => .inr (by omega))
    · have hw3 : Mod (fun k => k = w1.heap.size) w2 (w2.setCell ⟨w1.heap.size, 4, none⟩ (.bool true)) := (Mod.refl (fun k => k = w1.heap.size) w2).setCell (fun _ => rfl) _
      have hg3' : (w2.setCell ⟨w1.heap.size, 4, none⟩ (.bool true)).heap[w1.heap.size]? = some (.cells #[.int .i64 3, .int .i64 0, .float .f64 0, .string ⟨#[]⟩, .bool true] 79 (0, 0)) := heap_set Hg3.out
      have hg2' := hw3.heap Hg2.out (by omega)
      have HM3 := Lib.hid hw3
      have HG3 := Lib.hid hg3'
      have HG2 := Lib.hid hg2'
      clear hw3 hg3' hg2'
      go_wp2_with (first | (refine wpList_load_cells rfl 79 (.tmp 3) rfl w1.heap.size 0 rfl [.int .i64 3, .int .i64 0, .float .f64 0, .string ⟨#[]⟩, .bool true] (CellsAt.row HG3.out) (by kernel_rfl) (by kernel_rfl) ?_) | fail)
      refine (value_right ⟨3, 0, 0, ⟨#[]⟩, true⟩ _).mono ?_
      rintro e w4 ⟨rfl, hm4⟩
      rw [show V.right ⟨3, 0, 0, ⟨#[]⟩, true⟩ = true from rfl]
      have hg34 := hm4.heap HG3.out (by simp)
      have hg24 := hm4.heap HG2.out (by simp)
      have Hm4 := Lib.hid hm4
      have HG34 := Lib.hid hg34
      have HG24 := Lib.hid hg24
      clear hm4 hg34 hg24 c3 f3
      go_wp2_with (first | (refine wpList_load_cells rfl 79 (.tmp 3) rfl w1.heap.size 0 rfl [.int .i64 3, .int .i64 0, .float .f64 0, .string ⟨#[]⟩, .bool true] (CellsAt.row HG34.out) (by kernel_rfl) (by kernel_rfl) ?_) | (refine wpList_store_row rfl 79 (.tmp 2) (.tmp 55) rfl w.heap.size rfl _ 79 HG24.out [.int .i64 3, .int .i64 0, .float .f64 0, .string ⟨#[]⟩, .bool true] rfl 5 rfl rfl (by kernel_rfl) rfl ?_; intro w5 h5 hm5; have H5 := Lib.hid h5; have Hm5 := Lib.hid hm5; clear h5 hm5) | fail)
      refine bodyPost_cell rfl w.heap.size rfl _ (CellsAt.row H5.out) (by kernel_rfl) (by kernel_rfl) rfl (.inr ⟨⟨3, 0, 0, ⟨#[]⟩, true⟩, t2, ?_, rfl, ?_, ?_⟩)
      · rw [readV_cons, Hkn.out, if_neg (by decide), if_neg (by decide), if_neg (by decide), if_pos rfl]
        show (if n.toNat ≤ 1 then _ else _) = _
        rw [Hnn.out, if_pos (by decide)]
        rfl
      · have h3 := Hr2.out.new HM3.out (B := w1.heap.size) (by omega) (by omega) (fun k hk => by omega)
        have h4 := h3.new Hm4.out (B := w1.heap.size) (by omega) (by omega) (fun k hk => hk.elim)
        exact h4.new Hm5.out (B := w.heap.size) hrl hG (fun k hk => by omega)
      · exact ((((Hm1.out.on Hma.out (fun _ h => h.elim)).on Hm2.out (fun _ h => .inl h)).on HM3.out (fun k hk => .inr (by omega))).on Hm4.out (fun _ h => h.elim)).on Hm5.out (fun k hk => .inr (by omega))
    · have h2' : (1 : Int) < nn := by omega
      have hn' : (nn : Int) ≤ 255 := by omega
      have H2 := Lib.hid h2
      clear h2 hn8
      go_wp2
      refine ⟨rfl, .inl ⟨?_, rfl, (Hm1.out.on Hma.out (fun _ h => h.elim)).on Hm2.out (fun _ h => .inl h)⟩⟩
      rw [readV_cons, Hkn.out, if_neg (by decide), if_neg (by decide), if_neg (by decide), if_pos rfl]
      show (if n.toNat ≤ 1 then _ else _) = _
      rw [Hnn.out, if_neg (by have := H2.out; omega)]
  · have h4' : (4 : Int) ≤ kn := by omega
    have H4 := Lib.hid h4
    have hma := (Mod.refl (fun _ => False) w1).alloc (.cells #[.int .i64 kn, .int .i64 0, .float .f64 0, .string ⟨#[]⟩, .bool false] 79)
    have Hma := Lib.hid hma
    have hb0 : ((kn : Int) == 0) = false := by rw [beq_eq_false_iff_ne]; omega
    have hb1 : ((kn : Int) == 1) = false := by rw [beq_eq_false_iff_ne]; omega
    have hb2 : ((kn : Int) == 2) = false := by rw [beq_eq_false_iff_ne]; omega
    have hb3 : ((kn : Int) == 3) = false := by rw [beq_eq_false_iff_ne]; omega
    clear h4 hma
    go_wp2_with (first | (refine wpList_store_new rfl 79 (.tmp 3) (.tmp 9) rfl rfl _ 79 [.int .i64 kn, .int .i64 0, .float .f64 0, .string ⟨#[]⟩, .bool false] rfl rfl (by kernel_rfl) (fun u hu => List.all_eq_true.1 rfl u hu) ?_) | fail)
    refine ⟨rfl, .inl ⟨?_, rfl, Hm1.out.on Hma.out (fun _ h => h.elim)⟩⟩
    have := H4.out
    rw [readV_cons, Hkn.out, if_neg (by omega), if_neg (by omega), if_neg (by omega), if_neg (by omega)]
end Go.Proofs.YtloplmaekonenaaGreatDoor
