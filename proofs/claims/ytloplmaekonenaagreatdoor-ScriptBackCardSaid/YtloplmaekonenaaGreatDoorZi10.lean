/-
  The Writer's Event.
  What was read, written: the bytes that were read.
  The Writer's Filter.
-/
import Derived.Test.YtloplmaekonenaaGreatDoorZi9
import Derived.Test.YtloplmaekonenaaGreatDoorZi4
import Derived.Test.YtloplmaekonenaaGreatDoorZi5
import Derived.Test.YtloplmaekonenaaGreatDoorZi7
namespace Go.Proofs.YtloplmaekonenaaGreatDoor
set_option maxRecDepth 20000
open Go.RowKit
def attBytes (a : Att) : List UInt8 := (byteOf a.name.size :: txt a.name) ++ valBytes a.v
def evBytes (sc : ByteArray) (l : List Att) : List UInt8 := ((byteOf sc.size :: txt sc) ++ [byteOf l.length]) ++ l.flatMap attBytes
theorem valBytes_length (v : V) (h : v.text.size ≤ 255) : (valBytes v).length ≤ 300 := by
  unfold valBytes
  rw [List.length_cons]
  split
  · rw [longBytes_length]; omega
  · split
    · rw [longBytes_length]; omega
    · split
      · rw [List.length_cons, txt_length]; omega
      · simp
theorem attBytes_length (a : Att) (h : a.name.size ≤ 255) (h' : a.v.text.size ≤ 255) : (attBytes a).length ≤ 600 := by
  unfold attBytes
  have := valBytes_length a.v h'
  rw [List.length_append, List.length_cons, txt_length]
  omega
theorem Wrote.after {w w0 w' : World} {p : Nat} {v v' : Value} (hal : Mod (fun _ => False) w w0) (h : Wrote w0 p v w' v') : Wrote w p v w' v' :=
  ⟨(hal.mono (fun _ _ h => h.elim)).trans h.mod (fun _ _ h => h), fun k hk => (h.new k hk).imp id (fun h => by have := hal.size; omega)⟩
def Att.fit (a : Att) : Prop := a.name.size ≤ 255 ∧ a.v.text.size ≤ 255 ∧ a.v.num < 2 ^ 64
set_option maxRecDepth 20000 in
set_option maxHeartbeats 2000000 in
theorem wr_event (w : World) (p : Nat) (v : Value) (bs : List UInt8) (h : Wtr w p v bs) (hl : bs.length ≤ 1000000) (sc : ByteArray) (hsc : sc.size ≤ 100000) (av : Value) (l : List Att) (hav : RdSl w 6 av l.length (atts l)) (hll : l.length ≤ 255)
    (hfit : ∀ a ∈ l, a.fit) (hap : ∀ b, av.ownBlock = some b → b ≠ p ∧ ¬ inBlock v b) :
    Calls Tryz.prog 110 #[.pointer (some ⟨p, 0, none⟩), .agg #[.string sc, av]] w fun e w' => e = .returned (.pointer (some ⟨p, 0, none⟩)) ∧ ∃ v', Wtr w' p v' (bs ++ evBytes sc l) ∧ Wrote w p v w' v' := by
  obtain ⟨ha1, a, cap, rfl, ha2, ha3, ha4⟩ := hav
  have hll' : (l.length : Int) ≤ 255 := by omega
  obtain ⟨wb, hwb⟩ : ∃ wb : World, wb = w.alloc (.cells #[.string sc, .slice a l.length cap] 32) := ⟨_, rfl⟩
  have hmb : Mod (fun _ => False) w wb := hwb ▸ (Mod.refl (fun _ => False) w).alloc _
  have hgb : wb.heap[w.heap.size]? = some (.cells #[.string sc, .slice a l.length cap] 32 (0, 0)) := hwb ▸ heap_alloc_new w _
  have hsz : wb.heap.size = w.heap.size + 1 := by rw [hwb]; simp
  have hwt := h.same hmb
  have hpl := h.lt
  have hvl := h.blt
  have H := Lib.hid h
  have Hwb := Lib.hid hwb
  have Hmb := Lib.hid hmb
  have Hgb := Lib.hid hgb
  have Hwt := Lib.hid hwt
  have Hvl := Lib.hid hvl
  have Ha3 := Lib.hid ha3
  have Ha4 := Lib.hid ha4
  have Hl := Lib.hid hl
  have Hsc := Lib.hid hsc
  have Hfit := Lib.hid hfit
  have Hap := Lib.hid hap
  clear h hwb hmb hgb hwt hvl ha3 ha4 ha1 hl hsc hfit hap hll
  go_enter Tryz.func110, Tryz.ntmps110
  go_wp2_with fail
  rw [← Hwb.out]
  have s0 : wb.drew.cell? ⟨w.heap.size, 0, none⟩ = some (.string sc) := cell_of Hgb.out rfl
  have s1 : wb.drew.cell? ⟨w.heap.size, 1, none⟩ = some (.slice a l.length cap) := cell_of Hgb.out rfl
  have hS : wb.drew.cell? ⟨w.heap.size, 0, none⟩ = some (.string sc) ∧ wb.drew.cell? ⟨w.heap.size, 1, none⟩ = some (.slice a l.length cap) := ⟨s0, s1⟩
  refine wp_region_script [.rd 0, .rd 1, .rd 4, .rd 2, .rd 5, .rd 6, .both 3 7, .go 8] [0, 1, 2, 3, 4, 5, 6, 7] (fun y => y.cell? ⟨w.heap.size, 0, none⟩ = some (.string sc) ∧ y.cell? ⟨w.heap.size, 1, none⟩ = some (.slice a l.length cap)) (by kernel_rfl) (by kernel_rfl) (fun _ _ d _ _ h => (by cases d <;> exact h)) ?_
  iterate 6
    refine walk_rd rfl rfl (fun _ => hS) ?_ (fun w0 h0 => ?_) (fun K hK => ?_)
    rotate_left
    first
      | (have h1 := h0 rfl; clear h0; obtain ⟨f0, f1⟩ := h1; go_simp; with_reducible rfl)
      | (clear h0; go_simp; with_reducible rfl)
    go_simp; refine hK _ ?_; clear hK K
  refine walk_both_via (some 10) (some 14) (fun x y w' => x = .pointer (some ⟨p, 0, none⟩) ∧ ∃ g v2, y = .slice (some ⟨g, 0, none⟩) 1 1 ∧ w'.cell? ⟨g, 0, none⟩ = some (.int .i64 l.length) ∧ Wtr w' p v2 (bs ++ byteOf sc.size :: txt sc) ∧ Wrote wb p v w' v2) ?_ ?_ ?_
  · refine go_yes rfl rfl (fun K hK => ?_)
    go_wp2_with fail
    have hd : Mod (fun _ => False) wb wb.drew := (Mod.refl _ wb).drew
    refine (wr_text wb.drew p v bs (Hwt.out.same hd) (by have := Hl.out; omega) sc Hsc.out).mono ?_
    rintro e w1 ⟨rfl, v1, hw1, hwr1⟩
    have hnb : ¬ (w.heap.size = p ∨ inBlock v w.heap.size) := fun hk => by
      rcases hk with hk | hk
      · omega
      · have := Hvl.out _ hk; omega
    have t0 := hwr1.mod.cell s0 hnb
    have t1 := hwr1.mod.cell s1 hnb
    refine hK _ _ (fun _ _ => ⟨t0, t1⟩) ?_
    clear hK K
    refine go_yes rfl rfl (fun K hK => ?_)
    go_simp
    refine hK _ _ (fun _ h => ⟨cell_new h.1 _, cell_new h.2 _⟩) ⟨_, _, rfl, rfl, w1.heap.size, v1, rfl, cell_of (heap_alloc_new w1 _) rfl, hw1.same ((Mod.refl _ w1).alloc _), ?_⟩
    exact (Wrote.after hd hwr1).also ((Mod.refl (fun _ => False) w1).alloc _) (fun _ h => h.elim)
  · refine go_yes rfl rfl (fun K hK => ?_)
    go_wp2_with fail
    refine hK _ _ (fun _ h => ⟨cell_new h.1 _, cell_new h.2 _⟩) ?_
    clear hK K
    refine go_yes rfl rfl (fun K hK => ?_)
    have hd : Mod (fun _ => False) wb (wb.alloc (.cells #[.int .i64 l.length] 3)).drew := ((Mod.refl _ wb).alloc _).drew
    go_wp2_with fail
    refine (wr_text _ p v bs (Hwt.out.same hd) (by have := Hl.out; omega) sc Hsc.out).mono ?_
    rintro e w1 ⟨rfl, v1, hw1, hwr1⟩
    have hnb : ∀ b, w.heap.size ≤ b → ¬ (b = p ∨ inBlock v b) := fun b hb hk => by
      rcases hk with hk | hk
      · omega
      · have := Hvl.out _ hk; omega
    have t0 := hwr1.mod.cell (show (wb.alloc (.cells #[.int .i64 l.length] 3)).drew.cell? ⟨w.heap.size, 0, none⟩ = _ from cell_new s0 _) (hnb _ (Nat.le_refl _))
    have t1 := hwr1.mod.cell (show (wb.alloc (.cells #[.int .i64 l.length] 3)).drew.cell? ⟨w.heap.size, 1, none⟩ = _ from cell_new s1 _) (hnb _ (Nat.le_refl _))
    have t2 := hwr1.mod.cell (show (wb.alloc (.cells #[.int .i64 l.length] 3)).drew.cell? ⟨w.heap.size + 1, 0, none⟩ = some (.int .i64 l.length) from hsz ▸ cell_of (heap_drew_ (heap_alloc_new wb _)) rfl) (hnb _ (Nat.le_succ _))
    refine hK _ _ (fun _ _ => ⟨t0, t1⟩) ⟨_, _, rfl, rfl, w.heap.size + 1, v1, rfl, t2, hw1, ?_⟩
    exact Wrote.after hd hwr1
  intro x y w' hR K hK
  obtain ⟨rfl, g, v2, rfl, hg, hw2, hwr2⟩ := hR
  go_simp
  refine hK _ _ ?_
  clear hK K
  have hwl : (bs ++ byteOf sc.size :: txt sc).length ≤ 1100001 := by
    rw [List.length_append, List.length_cons, txt_length]
    have := Hl.out
    have := Hsc.out
    omega
  have Hb := Lib.hid (wr_byte w' p v2 _ hw2 (by omega) l.length g hg)
  have Hwr2 := Lib.hid hwr2
  have hwl2 : ((bs ++ byteOf sc.size :: txt sc) ++ [byteOf l.length]).length ≤ 1100002 := by rw [List.length_append]; simp; simpa using hwl
  have Hwl := Lib.hid hwl2
  clear hw2 hwr2 hg hwl hwl2 s0 s1 hS
  refine walk_one (go_yes rfl rfl (fun K hK => ?_))
  go_wp2_with fail
  refine Hb.out.mono ?_
  rintro e w3 ⟨rfl, v3, hw3, hwr3⟩
  refine hK _ _ (fun h => absurd h (by decide)) ?_
  clear hK K
  refine walk_nil ?_
  have hwrb := Hwr2.out.trans hwr3
  have hwr := Wrote.after Hmb.out hwrb
  obtain ⟨ws, hws⟩ : ∃ ws, ((bs ++ byteOf sc.size :: txt sc) ++ [byteOf l.length]) = ws := ⟨_, rfl⟩
  rw [hws] at Hwl hw3
  have Hws := Lib.hid hws
  have Hw3 := Lib.hid hw3
  have Hwr := Lib.hid hwr
  have hnb : ¬ (w.heap.size = p ∨ inBlock v w.heap.size) := fun hk => by
    rcases hk with hk | hk
    · omega
    · have := Hvl.out _ hk; omega
  have hmw : Mod (fun k => k = p ∨ inBlock v k) wb w3 := hwrb.mod
  have t1 : w3.cell? ⟨w.heap.size, 1, none⟩ = some (.slice a l.length cap) := hmw.cell (cell_of Hgb.out rfl) hnb
  clear hws hw3 hwr hwrb hwr3 Hb Hwr2 hmw
  go_wp2_with fail
  go_loopw [19] (fun i wr => ∃ k : Nat, ∃ v', k ≤ l.length ∧ i = .int .i64 k ∧ Wtr wr p v' (ws ++ (l.take k).flatMap attBytes) ∧ Wrote w p v wr v' ∧ (ws ++ (l.take k).flatMap attBytes).length ≤ 1100002 + 600 * k) (fun i _ => l.length - (intOf i).toNat)
  case atStart => exact ⟨0, v3, Nat.zero_le _, rfl, by simpa using Hw3.out, Hwr.out, by have := Hwl.out; simpa using this⟩
  case round =>
    obtain ⟨k, v4, hk, rfl, hw4, hwr4, hlen⟩ := hrel
    have Hw4 := Lib.hid hw4
    have Hwr4 := Lib.hid hwr4
    have Hlen := Lib.hid hlen
    clear hw4 hwr4 hlen
    by_cases hlt : k < l.length
    · have hlt' : (k : Int) < l.length := by omega
      obtain ⟨x, hx⟩ : ∃ x, l[k]? = some x := ⟨_, List.getElem?_eq_getElem hlt⟩
      obtain ⟨b, hab⟩ : ∃ b, a = some b := by
        cases a with
        | none => have := Ha3.out rfl; omega
        | some b => exact ⟨b, rfl⟩
      obtain ⟨g0, off, rfl, hc⟩ := Ha4.out b hab (by omega)
      subst hab
      have hgp := Hap.out g0 rfl
      have hxs : CellsAt wr g0 (off + k * 6) x.cells := by
        intro j u hu
        have := Hwr4.out.mod.cell (hc (6 * k + j) u (atts_at l hx hu)) (fun h => h.elim hgp.1 hgp.2)
        rw [show off + k * 6 + j = off + (6 * k + j) by omega]
        exact this
      have c0 : wr.cell? ⟨g0, off + k * 6, none⟩ = some (.string x.name) := hxs 0 _ rfl
      have c1 : wr.cell? ⟨g0, off + k * 6 + 1, none⟩ = some (.int .i64 x.v.kind) := hxs 1 _ rfl
      have c2 : wr.cell? ⟨g0, off + k * 6 + 2, none⟩ = some (.int .i64 x.v.int) := hxs 2 _ rfl
      have c3 : wr.cell? ⟨g0, off + k * 6 + 3, none⟩ = some (.float .f64 x.v.num) := hxs 3 _ rfl
      have c4 : wr.cell? ⟨g0, off + k * 6 + 4, none⟩ = some (.string x.v.text) := hxs 4 _ rfl
      have c5 : wr.cell? ⟨g0, off + k * 6 + 5, none⟩ = some (.bool x.v.yes) := hxs 5 _ rfl
      have hxf := Hfit.out x (List.mem_of_getElem? hx)
      have hW := heap_alloc_new wr (.cells x.cells.toArray 90)
      have hWs : Mod (fun _ => False) wr (wr.alloc (.cells x.cells.toArray 90)).drew := ((Mod.refl _ wr).alloc _).drew
      have Hx := Lib.hid hx
      have Hxf := Lib.hid hxf
      have HW := Lib.hid hW
      have HWs := Lib.hid hWs
      clear hxs hc hx hgp hxf hW hWs Ha4
      go_wp2_with (first | (refine wpList_store_new rfl 90 (.tmp 6) (.tmp 22) rfl rfl _ 90 x.cells rfl rfl (by kernel_rfl) (fun u hu => List.all_eq_true.1 (show x.cells.all (·.oneCell') = true from rfl) u hu) ?_) | fail)
      have hS : (fun y : World => y.cell? ⟨wr.heap.size, 0, none⟩ = some (.string x.name) ∧ AllCells y wr.heap.size 1 5 ∧ cellsOf y wr.heap.size 1 5 = x.v.cells.toArray) (wr.alloc (.cells x.cells.toArray 90)).drew := by
        have h2 : CellsAt (wr.alloc (.cells x.cells.toArray 90)) wr.heap.size 1 x.v.cells := fun j u hu => by have := CellsAt.row HW.out (j + 1) u (by simpa [Att.cells] using hu); rw [show 1 + j = 0 + (j + 1) by omega]; exact this
        exact ⟨cell_of (heap_drew_ HW.out) rfl, h2.all rfl, h2.is rfl⟩
      refine wp_region_script [.rd 0, .rd 1, .rd 4, .rd 2, .rd 5, .go 3, .go 6] [0, 1, 2, 3, 4, 5] (fun y => y.cell? ⟨wr.heap.size, 0, none⟩ = some (.string x.name) ∧ AllCells y wr.heap.size 1 5 ∧ cellsOf y wr.heap.size 1 5 = x.v.cells.toArray) (by kernel_rfl) (by kernel_rfl) (fun _ _ d _ _ h => (by cases d <;> exact h)) ?_
      refine walk_rd rfl rfl (fun _ => hS) ?_ (fun w0 h0 => ?_) (fun K hK => ?_)
      rotate_left
      · first
          | (have h1 := h0 rfl; clear h0; obtain ⟨f0, f1, f2⟩ := h1; (try simp only [List.getElem_toArray, List.getElem_cons_succ, List.getElem_cons_zero]); go_simp; with_reducible rfl)
          | (clear h0; go_simp; with_reducible rfl)
      go_simp; refine hK _ ?_; clear hK K
      refine walk_rd rfl rfl (fun _ => hS) ?_ (fun w0 h0 => ?_) (fun K hK => ?_)
      rotate_left
      · first
          | (have h1 := h0 rfl; clear h0; obtain ⟨f0, f1, f2⟩ := h1; (try simp only [List.getElem_toArray, List.getElem_cons_succ, List.getElem_cons_zero]); go_simp; with_reducible rfl)
          | (clear h0; go_simp; with_reducible rfl)
      go_simp; refine hK _ ?_; clear hK K
      refine walk_rd rfl rfl (fun _ => hS) ?_ (fun w0 h0 => ?_) (fun K hK => ?_)
      rotate_left
      · first
          | (have h1 := h0 rfl; clear h0; obtain ⟨f0, f1, f2⟩ := h1; (try simp only [List.getElem_toArray, List.getElem_cons_succ, List.getElem_cons_zero]); go_simp; with_reducible rfl)
          | (clear h0; go_simp; with_reducible rfl)
      go_simp; refine hK _ ?_; clear hK K
      refine walk_rd rfl rfl (fun _ => hS) ?_ (fun w0 h0 => ?_) (fun K hK => ?_)
      rotate_left
      · first
          | (have h1 := h0 rfl; clear h0; obtain ⟨f0, f1, f2⟩ := h1; (try simp only [List.getElem_toArray, List.getElem_cons_succ, List.getElem_cons_zero]); go_simp; with_reducible rfl)
          | (clear h0; go_simp; with_reducible rfl)
      go_simp; refine hK _ ?_; clear hK K
      refine walk_rd rfl rfl (fun _ => hS) ?_ (fun w0 h0 => ?_) (fun K hK => ?_)
      rotate_left
      · first
          | (have h1 := h0 rfl; clear h0; obtain ⟨f0, f1, f2⟩ := h1; (try simp only [List.getElem_toArray, List.getElem_cons_succ, List.getElem_cons_zero]); go_simp; with_reducible rfl)
          | (clear h0; go_simp; with_reducible rfl)
      go_simp; refine hK _ ?_; clear hK K
      refine walk_one (go_yes rfl rfl (fun K hK => ?_))
      go_wp2_with fail
      refine (wr_text _ p v4 _ (Hw4.out.same HWs.out) (by have := Hlen.out; omega) x.name (by have := Hxf.out.1; omega)).mono ?_
      rintro e w5 ⟨rfl, v5, hw5, hwr5⟩
      have hnx : ¬ (wr.heap.size = p ∨ inBlock v4 wr.heap.size) := fun hk => by
        rcases hk with hk | hk
        · have := Hw4.out.lt; omega
        · have := Hw4.out.blt _ hk; omega
      have h5 := hwr5.mod.heap (heap_drew_ HW.out) hnx
      have h52 : CellsAt w5 wr.heap.size 1 x.v.cells := fun j u hu => by have := CellsAt.row h5 (j + 1) u (by simpa [Att.cells] using hu); rw [show 1 + j = 0 + (j + 1) by omega]; exact this
      refine hK _ _ (fun _ _ => ⟨cell_of h5 rfl, h52.all rfl, h52.is rfl⟩) ?_
      clear hK K
      refine walk_one (go_yes rfl rfl (fun K hK => ?_))
      go_wp2_with fail
      have hl5 : ((ws ++ (l.take k).flatMap attBytes) ++ byteOf x.name.size :: txt x.name).length ≤ 8000000 := by
        rw [List.length_append, List.length_cons, txt_length]
        have := Hlen.out
        have := Hxf.out.1
        omega
      refine (wr_value w5 p v5 _ hw5 hl5 x.v (by have := Hxf.out.2.1; omega) Hxf.out.2.2).mono ?_
      rintro e w6 ⟨rfl, v6, hw6, hwr6⟩
      refine hK _ _ (fun h => absurd h (by decide)) ?_
      clear hK K
      refine walk_nil ?_
      have hwr := Hwr4.out.trans ((Wrote.after HWs.out hwr5).trans hwr6)
      have htk : (ws ++ (l.take k).flatMap attBytes) ++ byteOf x.name.size :: txt x.name ++ valBytes x.v = ws ++ (l.take (k + 1)).flatMap attBytes := by
        rw [List.take_add_one, Hx.out]
        simp [attBytes]
      rw [htk] at hw6
      have hll6 : (ws ++ (l.take (k + 1)).flatMap attBytes).length ≤ 1100002 + 600 * (k + 1) := by
        rw [← htk, List.append_assoc, List.length_append]
        have h1 := Hlen.out
        have h2 : (byteOf x.name.size :: txt x.name ++ valBytes x.v).length ≤ 600 := attBytes_length x Hxf.out.1 Hxf.out.2.1
        omega
      have Hw6 := Lib.hid hw6
      have Hwr6 := Lib.hid hwr
      have Hl6 := Lib.hid hll6
      clear hw6 hwr hll6 htk hwr5 hwr6 hw5 h5 h52 hS
      go_wp2
      go_roundw
      case rel => exact ⟨k + 1, v6, hlt, by go_num, Hw6.out, Hwr6.out, Hl6.out⟩
      case measure => simp [intOf]; omega
    · obtain rfl : k = l.length := by omega
      go_wp2
      go_ret
      refine ⟨rfl, v4, ?_, Hwr4.out⟩
      have h := Hw4.out
      rw [List.take_length] at h
      have e : bs ++ evBytes sc l = ws ++ l.flatMap attBytes := by rw [← Hws.out]; unfold evBytes; simp
      rw [e]
      exact h
end Go.Proofs.YtloplmaekonenaaGreatDoor
namespace Go.Proofs.YtloplmaekonenaaGreatDoor
set_option maxRecDepth 20000
open Go.RowKit
theorem byteOf_u8 (x : UInt8) : byteOf (x.toNat : Int) = x := by
  unfold byteOf
  have := x.toNat_lt
  have h : ((x.toNat : Int) % 256).toNat = x.toNat := by omega
  rw [h]
  exact UInt8.ofNat_toNat
theorem byteOf_is {x : UInt8} {k : Int} (h : (x.toNat : Int) = k) : byteOf k = x := h ▸ byteOf_u8 x
theorem txt_str (bs : List UInt8) : txt (str bs) = bs := by simp [txt, str]
theorem str_size (bs : List UInt8) : (str bs).size = bs.length := by
  show (str bs).data.size = bs.length
  simp [str]
theorem readT_back {bs t : List UInt8} {s : ByteArray} (h : readT bs = some (s, t)) : bs = (byteOf s.size :: txt s) ++ t ∧ s.size ≤ 255 := by
  cases bs with
  | nil => cases h
  | cons x u =>
    have h : (if x.toNat ≤ u.length then some (str (u.take x.toNat), u.drop x.toNat) else none) = some (s, t) := h
    split at h
    · rename_i hx
      simp only [Option.some.injEq, Prod.mk.injEq] at h
      obtain ⟨rfl, rfl⟩ := h
      have hs : (str (u.take x.toNat)).size = x.toNat := by rw [str_size, List.length_take]; omega
      have := x.toNat_lt
      rw [hs, txt_str, byteOf_u8, List.cons_append, List.take_append_drop]
      exact ⟨rfl, by omega⟩
    · cases h
theorem long_back (l : List UInt8) (h : l.length = 8) : longBytes (longOf l) = l := by
  match l, h with
  | [a, b, c, d, e, f, g, i], _ =>
    have ha := a.toNat_lt
    have hb := b.toNat_lt
    have hc := c.toNat_lt
    have hd := d.toNat_lt
    have he := e.toNat_lt
    have hf := f.toNat_lt
    have hg := g.toNat_lt
    have hi := i.toNat_lt
    have key : ∀ (x : UInt8) (N : Nat), N % 256 = x.toNat → byteOf (N : Int) = x := fun x N hN => by
      unfold byteOf
      have h : ((N : Int) % 256).toNat = x.toNat := by omega
      rw [h]
      exact UInt8.ofNat_toNat
    simp only [longBytes, List.range_succ, List.range_zero, List.nil_append, List.cons_append, List.map_cons, List.map_nil, longOf, List.foldl_cons, List.foldl_nil]
    simp only [Nat.zero_mul, Nat.zero_add, Nat.sub_self, Nat.pow_zero, Nat.div_one, Nat.reduceSub, Nat.reducePow]
    rw [key a _ (by omega), key b _ (by omega), key c _ (by omega), key d _ (by omega), key e _ (by omega), key f _ (by omega), key g _ (by omega), key i _ (by omega)]
theorem nan_key : keyB nanB = 2 ^ 64 - 1 := by decide +kernel
theorem nan_lt : nanB < 2 ^ 64 := by decide +kernel
theorem back_key {K : Nat} (hK : K < 2 ^ 64) (h : (backB K).2 = true) : keyB (backB K).1 = K ∧ (backB K).1 < 2 ^ 64 := by
  unfold backB at h ⊢
  split
  · rename_i he
    exact ⟨by rw [he]; exact nan_key, nan_lt⟩
  · rename_i he
    rw [if_neg he] at h
    split
    · rename_i hc
      simp only [Bool.and_eq_true, beq_iff_eq] at hc
      exact ⟨hc.2, unkeyB_lt hK⟩
    · rename_i hc
      rw [if_neg hc] at h
      cases h
theorem readV_back {bs t : List UInt8} {v : V} (h : readV bs = some (v, t)) : bs = valBytes v ++ t ∧ v.text.size ≤ 255 ∧ v.num < 2 ^ 64 := by
  cases bs with
  | nil => cases h
  | cons k u =>
    rw [readV_cons] at h
    split at h
    · rename_i h0
      split at h
      · rename_i h8
        simp only [Option.some.injEq, Prod.mk.injEq] at h
        obtain ⟨rfl, rfl⟩ := h
        refine ⟨?_, Nat.zero_le _, by show (0 : Nat) < 2 ^ 64; decide⟩
        have hl := longOf_lt (u.take 8)
        have h8' : (u.take 8).length = 8 := by rw [List.length_take]; omega
        rw [h8'] at hl
        have hX : (wrap64 (longOf (u.take 8) : Nat) % 18446744073709551616).toNat = longOf (u.take 8) := by unfold wrap64; omega
        unfold valBytes
        show k :: u = byteOf 0 :: longBytes _ ++ u.drop 8
        rw [byteOf_is (x := k) (by omega)]
        show k :: u = k :: longBytes (wrap64 (longOf (u.take 8) : Nat) % 18446744073709551616).toNat ++ u.drop 8
        rw [hX, long_back _ h8', List.cons_append, List.take_append_drop]
      · cases h
    · split at h
      · rename_i h0 h1
        split at h
        · rename_i h8
          simp only [Option.some.injEq, Prod.mk.injEq] at h
          obtain ⟨rfl, rfl⟩ := h
          have hl := longOf_lt (u.take 8)
          have h8' : (u.take 8).length = 8 := by rw [List.length_take]; omega
          rw [h8'] at hl
          obtain ⟨hk, hlt⟩ := back_key (by omega) h8.2
          refine ⟨?_, Nat.zero_le _, hlt⟩
          unfold valBytes
          show k :: u = byteOf 1 :: longBytes (keyB (backB (longOf (u.take 8))).1) ++ u.drop 8
          rw [byteOf_is (x := k) (by omega), hk, long_back _ h8', List.cons_append, List.take_append_drop]
        · cases h
      · split at h
        · rename_i h0 h1 h2
          cases u with
          | nil => cases h
          | cons n u =>
            have h : (if n.toNat ≤ u.length ∧ n.toNat ≤ 40 then some ({ V.zero with kind := 2, text := str (u.take n.toNat) }, u.drop n.toNat) else none) = some (v, t) := h
            split at h
            · rename_i hn
              simp only [Option.some.injEq, Prod.mk.injEq] at h
              obtain ⟨rfl, rfl⟩ := h
              have hs : (str (u.take n.toNat)).size = n.toNat := by rw [str_size, List.length_take]; omega
              refine ⟨?_, ?_, by show (0 : Nat) < 2 ^ 64; decide⟩
              · unfold valBytes
                show k :: n :: u = byteOf 2 :: (byteOf (str (u.take n.toNat)).size :: txt (str (u.take n.toNat))) ++ u.drop n.toNat
                rw [byteOf_is (x := k) (by omega), hs, byteOf_u8, txt_str, List.cons_append, List.cons_append, List.take_append_drop]
              · show (str (u.take n.toNat)).size ≤ 255
                omega
            · cases h
        · split at h
          · rename_i h0 h1 h2 h3
            cases u with
            | nil => cases h
            | cons n u =>
              have h : (if n.toNat ≤ 1 then some ({ V.zero with kind := 3, yes := n.toNat == 1 }, u) else none) = some (v, t) := h
              split at h
              · rename_i hn
                simp only [Option.some.injEq, Prod.mk.injEq] at h
                obtain ⟨rfl, rfl⟩ := h
                refine ⟨?_, Nat.zero_le _, by show (0 : Nat) < 2 ^ 64; decide⟩
                unfold valBytes
                show k :: n :: u = byteOf 3 :: [if (n.toNat == 1) = true then (1 : UInt8) else 0] ++ u
                rw [byteOf_is (x := k) (by omega)]
                have hn' : (if (n.toNat == 1) = true then (1 : UInt8) else 0) = n := by
                  rcases (by omega : n.toNat = 0 ∨ n.toNat = 1) with e | e
                  · rw [e]; exact UInt8.toNat_inj.1 (by rw [e]; rfl)
                  · rw [e]; exact UInt8.toNat_inj.1 (by rw [e]; rfl)
                rw [hn']
                rfl
              · cases h
          · cases h
theorem readAtts_back : ∀ (n : Nat) {bs t : List UInt8} {l : List Att}, readAtts n bs = some (l, t) → bs = l.flatMap attBytes ++ t ∧ l.length = n ∧ ∀ a ∈ l, a.fit
  | 0, bs, t, l, h => by
    rw [readAtts_zero] at h
    cases h
    exact ⟨rfl, rfl, fun a ha => by cases ha⟩
  | n + 1, bs, t, l, h => by
    rw [readAtts_succ] at h
    cases h1 : readT bs with
    | none => rw [h1] at h; cases h
    | some p =>
      rw [h1] at h
      obtain ⟨s, t1⟩ := p
      simp only [Option.bind_some] at h
      cases h2 : readV t1 with
      | none => rw [h2] at h; cases h
      | some q =>
        rw [h2] at h
        obtain ⟨v, t2⟩ := q
        simp only [Option.bind_some] at h
        cases h3 : readAtts n t2 with
        | none => rw [h3] at h; cases h
        | some z =>
          rw [h3] at h
          obtain ⟨l', t3⟩ := z
          simp only [Option.map_some, Option.some.injEq, Prod.mk.injEq] at h
          obtain ⟨rfl, rfl⟩ := h
          obtain ⟨e1, b1⟩ := readT_back h1
          obtain ⟨e2, b2, b3⟩ := readV_back h2
          obtain ⟨e3, b4, b5⟩ := readAtts_back n h3
          refine ⟨?_, by rw [List.length_cons, b4], fun a ha => ?_⟩
          · rw [e1, e2, e3, List.flatMap_cons]
            unfold attBytes
            simp
          · rcases List.mem_cons.1 ha with rfl | ha
            · exact ⟨b1, b2, b3⟩
            · exact b5 a ha
end Go.Proofs.YtloplmaekonenaaGreatDoor
namespace Go.Proofs.YtloplmaekonenaaGreatDoor
set_option maxRecDepth 20000
open Go.RowKit
def cndBytes (a : Cnd) : List UInt8 := ((byteOf a.name.size :: txt a.name) ++ [byteOf a.op]) ++ valBytes a.v
def filBytes (sc : ByteArray) (l : List Cnd) : List UInt8 := ((byteOf sc.size :: txt sc) ++ [byteOf l.length]) ++ l.flatMap cndBytes
theorem cndBytes_length (a : Cnd) (h : a.name.size ≤ 255) (h' : a.v.text.size ≤ 255) : (cndBytes a).length ≤ 600 := by
  unfold cndBytes
  have := valBytes_length a.v h'
  rw [List.length_append, List.length_append, List.length_cons, txt_length]
  simp only [List.length_cons, List.length_nil]
  omega
def Cnd.fit (a : Cnd) : Prop := a.name.size ≤ 255 ∧ a.v.text.size ≤ 255 ∧ a.v.num < 2 ^ 64
theorem cells_keep {y y' : World} {F : Nat → Prop} {g off n : Nat} {c : Array Value} (h : AllCells y g off n ∧ cellsOf y g off n = c) (hm : Mod F y y') (hn : ¬ F g) : AllCells y' g off n ∧ cellsOf y' g off n = c := by
  have hc := h.1.at.mod hm hn
  exact ⟨hc.all (cellsOf_length y g off n), (hc.is (cellsOf_length y g off n)).trans h.2⟩
set_option maxRecDepth 20000 in
set_option maxHeartbeats 4000000 in
theorem wr_filter (w : World) (p : Nat) (v : Value) (bs : List UInt8) (h : Wtr w p v bs) (hl : bs.length ≤ 1000000) (sc : ByteArray) (hsc : sc.size ≤ 100000) (av : Value) (l : List Cnd) (hav : RdSl w 7 av l.length (cnds l)) (hll : l.length ≤ 255)
    (hfit : ∀ a ∈ l, a.fit) (hap : 0 < l.length → ∀ b, av.ownBlock = some b → b ≠ p ∧ ¬ inBlock v b) :
    Calls Tryz.prog 111 #[.pointer (some ⟨p, 0, none⟩), .agg #[.string sc, av]] w fun e w' => e = .returned (.pointer (some ⟨p, 0, none⟩)) ∧ ∃ v', Wtr w' p v' (bs ++ filBytes sc l) ∧ Wrote w p v w' v' := by
  obtain ⟨ha1, a, cap, rfl, ha2, ha3, ha4⟩ := hav
  have hll' : (l.length : Int) ≤ 255 := by omega
  obtain ⟨wb, hwb⟩ : ∃ wb : World, wb = w.alloc (.cells #[.string sc, .slice a l.length cap] 29) := ⟨_, rfl⟩
  have hmb : Mod (fun _ => False) w wb := hwb ▸ (Mod.refl (fun _ => False) w).alloc _
  have hgb : wb.heap[w.heap.size]? = some (.cells #[.string sc, .slice a l.length cap] 29 (0, 0)) := hwb ▸ heap_alloc_new w _
  have hsz : wb.heap.size = w.heap.size + 1 := by rw [hwb]; simp
  have hwt := h.same hmb
  have hpl := h.lt
  have hvl := h.blt
  have H := Lib.hid h
  have Hwb := Lib.hid hwb
  have Hmb := Lib.hid hmb
  have Hgb := Lib.hid hgb
  have Hwt := Lib.hid hwt
  have Hvl := Lib.hid hvl
  have Ha3 := Lib.hid ha3
  have Ha4 := Lib.hid ha4
  have Hl := Lib.hid hl
  have Hsc := Lib.hid hsc
  have Hfit := Lib.hid hfit
  have Hap := Lib.hid hap
  clear h hwb hmb hgb hwt hvl ha3 ha4 ha1 hl hsc hfit hap hll
  go_enter Tryz.func111, Tryz.ntmps111
  go_wp2_with fail
  rw [← Hwb.out]
  have s0 : wb.drew.cell? ⟨w.heap.size, 0, none⟩ = some (.string sc) := cell_of Hgb.out rfl
  have s1 : wb.drew.cell? ⟨w.heap.size, 1, none⟩ = some (.slice a l.length cap) := cell_of Hgb.out rfl
  have hS : wb.drew.cell? ⟨w.heap.size, 0, none⟩ = some (.string sc) ∧ wb.drew.cell? ⟨w.heap.size, 1, none⟩ = some (.slice a l.length cap) := ⟨s0, s1⟩
  refine wp_region_script [.rd 0, .rd 1, .rd 4, .rd 2, .rd 5, .rd 6, .both 3 7, .go 8] [0, 1, 2, 3, 4, 5, 6, 7] (fun y => y.cell? ⟨w.heap.size, 0, none⟩ = some (.string sc) ∧ y.cell? ⟨w.heap.size, 1, none⟩ = some (.slice a l.length cap)) (by kernel_rfl) (by kernel_rfl) (fun _ _ d _ _ h => (by cases d <;> exact h)) ?_
  iterate 6
    refine walk_rd rfl rfl (fun _ => hS) ?_ (fun w0 h0 => ?_) (fun K hK => ?_)
    rotate_left
    first
      | (have h1 := h0 rfl; clear h0; obtain ⟨f0, f1⟩ := h1; go_simp; with_reducible rfl)
      | (clear h0; go_simp; with_reducible rfl)
    go_simp; refine hK _ ?_; clear hK K
  refine walk_both_via (some 10) (some 14) (fun x y w' => x = .pointer (some ⟨p, 0, none⟩) ∧ ∃ g v2, y = .slice (some ⟨g, 0, none⟩) 1 1 ∧ w'.cell? ⟨g, 0, none⟩ = some (.int .i64 l.length) ∧ Wtr w' p v2 (bs ++ byteOf sc.size :: txt sc) ∧ Wrote wb p v w' v2) ?_ ?_ ?_
  · refine go_yes rfl rfl (fun K hK => ?_)
    go_wp2_with fail
    have hd : Mod (fun _ => False) wb wb.drew := (Mod.refl _ wb).drew
    refine (wr_text wb.drew p v bs (Hwt.out.same hd) (by have := Hl.out; omega) sc Hsc.out).mono ?_
    rintro e w1 ⟨rfl, v1, hw1, hwr1⟩
    have hnb : ¬ (w.heap.size = p ∨ inBlock v w.heap.size) := fun hk => by
      rcases hk with hk | hk
      · omega
      · have := Hvl.out _ hk; omega
    have t0 := hwr1.mod.cell s0 hnb
    have t1 := hwr1.mod.cell s1 hnb
    refine hK _ _ (fun _ _ => ⟨t0, t1⟩) ?_
    clear hK K
    refine go_yes rfl rfl (fun K hK => ?_)
    go_simp
    refine hK _ _ (fun _ h => ⟨cell_new h.1 _, cell_new h.2 _⟩) ⟨_, _, rfl, rfl, w1.heap.size, v1, rfl, cell_of (heap_alloc_new w1 _) rfl, hw1.same ((Mod.refl _ w1).alloc _), ?_⟩
    exact (Wrote.after hd hwr1).also ((Mod.refl (fun _ => False) w1).alloc _) (fun _ h => h.elim)
  · refine go_yes rfl rfl (fun K hK => ?_)
    go_wp2_with fail
    refine hK _ _ (fun _ h => ⟨cell_new h.1 _, cell_new h.2 _⟩) ?_
    clear hK K
    refine go_yes rfl rfl (fun K hK => ?_)
    have hd : Mod (fun _ => False) wb (wb.alloc (.cells #[.int .i64 l.length] 3)).drew := ((Mod.refl _ wb).alloc _).drew
    go_wp2_with fail
    refine (wr_text _ p v bs (Hwt.out.same hd) (by have := Hl.out; omega) sc Hsc.out).mono ?_
    rintro e w1 ⟨rfl, v1, hw1, hwr1⟩
    have hnb : ∀ b, w.heap.size ≤ b → ¬ (b = p ∨ inBlock v b) := fun b hb hk => by
      rcases hk with hk | hk
      · omega
      · have := Hvl.out _ hk; omega
    have t0 := hwr1.mod.cell (show (wb.alloc (.cells #[.int .i64 l.length] 3)).drew.cell? ⟨w.heap.size, 0, none⟩ = _ from cell_new s0 _) (hnb _ (Nat.le_refl _))
    have t1 := hwr1.mod.cell (show (wb.alloc (.cells #[.int .i64 l.length] 3)).drew.cell? ⟨w.heap.size, 1, none⟩ = _ from cell_new s1 _) (hnb _ (Nat.le_refl _))
    have t2 := hwr1.mod.cell (show (wb.alloc (.cells #[.int .i64 l.length] 3)).drew.cell? ⟨w.heap.size + 1, 0, none⟩ = some (.int .i64 l.length) from hsz ▸ cell_of (heap_drew_ (heap_alloc_new wb _)) rfl) (hnb _ (Nat.le_succ _))
    refine hK _ _ (fun _ _ => ⟨t0, t1⟩) ⟨_, _, rfl, rfl, w.heap.size + 1, v1, rfl, t2, hw1, ?_⟩
    exact Wrote.after hd hwr1
  intro x y w' hR K hK
  obtain ⟨rfl, g, v2, rfl, hg, hw2, hwr2⟩ := hR
  go_simp
  refine hK _ _ ?_
  clear hK K
  have hwl : (bs ++ byteOf sc.size :: txt sc).length ≤ 1100001 := by
    rw [List.length_append, List.length_cons, txt_length]
    have := Hl.out
    have := Hsc.out
    omega
  have Hb := Lib.hid (wr_byte w' p v2 _ hw2 (by omega) l.length g hg)
  have Hwr2 := Lib.hid hwr2
  have hwl2 : ((bs ++ byteOf sc.size :: txt sc) ++ [byteOf l.length]).length ≤ 1100002 := by rw [List.length_append]; simp; simpa using hwl
  have Hwl := Lib.hid hwl2
  clear hw2 hwr2 hg hwl hwl2 s0 s1 hS
  refine walk_one (go_yes rfl rfl (fun K hK => ?_))
  go_wp2_with fail
  refine Hb.out.mono ?_
  rintro e w3 ⟨rfl, v3, hw3, hwr3⟩
  refine hK _ _ (fun h => absurd h (by decide)) ?_
  clear hK K
  refine walk_nil ?_
  have hwrb := Hwr2.out.trans hwr3
  have hwr := Wrote.after Hmb.out hwrb
  obtain ⟨ws, hws⟩ : ∃ ws, ((bs ++ byteOf sc.size :: txt sc) ++ [byteOf l.length]) = ws := ⟨_, rfl⟩
  rw [hws] at Hwl hw3
  have Hws := Lib.hid hws
  have Hw3 := Lib.hid hw3
  have Hwr := Lib.hid hwr
  have hnb : ¬ (w.heap.size = p ∨ inBlock v w.heap.size) := fun hk => by
    rcases hk with hk | hk
    · omega
    · have := Hvl.out _ hk; omega
  have hmw : Mod (fun k => k = p ∨ inBlock v k) wb w3 := hwrb.mod
  have t1 : w3.cell? ⟨w.heap.size, 1, none⟩ = some (.slice a l.length cap) := hmw.cell (cell_of Hgb.out rfl) hnb
  clear hws hw3 hwr hwrb hwr3 Hb Hwr2 hmw
  go_wp2_with fail
  go_loopw [19] (fun i wr => ∃ k : Nat, ∃ v', k ≤ l.length ∧ i = .int .i64 k ∧ Wtr wr p v' (ws ++ (l.take k).flatMap cndBytes) ∧ Wrote w p v wr v' ∧ (ws ++ (l.take k).flatMap cndBytes).length ≤ 1100002 + 600 * k) (fun i _ => l.length - (intOf i).toNat)
  case atStart => exact ⟨0, v3, Nat.zero_le _, rfl, by simpa using Hw3.out, Hwr.out, by have := Hwl.out; simpa using this⟩
  case round =>
    obtain ⟨k, v4, hk, rfl, hw4, hwr4, hlen⟩ := hrel
    have Hw4 := Lib.hid hw4
    have Hwr4 := Lib.hid hwr4
    have Hlen := Lib.hid hlen
    clear hw4 hwr4 hlen
    by_cases hlt : k < l.length
    · have hlt' : (k : Int) < l.length := by omega
      obtain ⟨x, hx⟩ : ∃ x, l[k]? = some x := ⟨_, List.getElem?_eq_getElem hlt⟩
      obtain ⟨b, hab⟩ : ∃ b, a = some b := by
        cases a with
        | none => have := Ha3.out rfl; omega
        | some b => exact ⟨b, rfl⟩
      obtain ⟨g0, off, rfl, hc⟩ := Ha4.out b hab (by omega)
      subst hab
      have hgp := Hap.out (by omega) g0 rfl
      have hxs : CellsAt wr g0 (off + k * 7) x.cells := by
        intro j u hu
        have := Hwr4.out.mod.cell (hc (7 * k + j) u (cnds_at l hx hu)) (fun h => h.elim hgp.1 hgp.2)
        rw [show off + k * 7 + j = off + (7 * k + j) by omega]
        exact this
      have c0 : wr.cell? ⟨g0, off + k * 7, none⟩ = some (.string x.name) := hxs 0 _ rfl
      have c1 : wr.cell? ⟨g0, off + k * 7 + 1, none⟩ = some (.int .i64 x.op) := hxs 1 _ rfl
      have c2 : wr.cell? ⟨g0, off + k * 7 + 2, none⟩ = some (.int .i64 x.v.kind) := hxs 2 _ rfl
      have c3 : wr.cell? ⟨g0, off + k * 7 + 3, none⟩ = some (.int .i64 x.v.int) := hxs 3 _ rfl
      have c4 : wr.cell? ⟨g0, off + k * 7 + 4, none⟩ = some (.float .f64 x.v.num) := hxs 4 _ rfl
      have c5 : wr.cell? ⟨g0, off + k * 7 + 5, none⟩ = some (.string x.v.text) := hxs 5 _ rfl
      have c6 : wr.cell? ⟨g0, off + k * 7 + 6, none⟩ = some (.bool x.v.yes) := hxs 6 _ rfl
      have hxf := Hfit.out x (List.mem_of_getElem? hx)
      have hW := heap_alloc_new wr (.cells x.cells.toArray 81)
      have hWs : Mod (fun _ => False) wr (wr.alloc (.cells x.cells.toArray 81)).drew := ((Mod.refl _ wr).alloc _).drew
      have Hx := Lib.hid hx
      have Hxf := Lib.hid hxf
      have HW := Lib.hid hW
      have HWs := Lib.hid hWs
      clear hxs hc hx hgp hxf hW hWs Ha4
      go_wp2_with (first | (refine wpList_store_new rfl 81 (.tmp 6) (.tmp 22) rfl rfl _ 81 x.cells rfl rfl (by kernel_rfl) (fun u hu => List.all_eq_true.1 (show x.cells.all (·.oneCell') = true from rfl) u hu) ?_) | fail)
      have hS : (fun y : World => y.cell? ⟨wr.heap.size, 0, none⟩ = some (.string x.name) ∧ y.cell? ⟨wr.heap.size, 1, none⟩ = some (.int .i64 x.op) ∧ AllCells y wr.heap.size 2 5 ∧ cellsOf y wr.heap.size 2 5 = x.v.cells.toArray) (wr.alloc (.cells x.cells.toArray 81)).drew := ⟨cell_of (heap_drew_ HW.out) rfl, cell_of (heap_drew_ HW.out) rfl, (cells_from2 (heap_drew_ HW.out)).all rfl, (cells_from2 (heap_drew_ HW.out)).is rfl⟩
      refine wp_region_script [.rd 0, .rd 1, .rd 4, .rd 8, .rd 2, .rd 5, .rd 9, .both 3 6, .go 7, .go 10] [0, 1, 2, 3, 4, 5, 6, 7, 8, 9] (fun y : World => y.cell? ⟨wr.heap.size, 0, none⟩ = some (.string x.name) ∧ y.cell? ⟨wr.heap.size, 1, none⟩ = some (.int .i64 x.op) ∧ AllCells y wr.heap.size 2 5 ∧ cellsOf y wr.heap.size 2 5 = x.v.cells.toArray) (by kernel_rfl) (by kernel_rfl) (fun _ _ d _ _ h => (by cases d <;> exact h)) ?_
      iterate 7
        refine walk_rd rfl rfl (fun _ => hS) ?_ (fun w0 h0 => ?_) (fun K hK => ?_)
        rotate_left
        first
          | (have h1 := h0 rfl; clear h0; obtain ⟨f0, f1, f2, f3⟩ := h1; (try simp only [List.getElem_toArray, List.getElem_cons_succ, List.getElem_cons_zero]); go_simp; with_reducible rfl)
          | (clear h0; (try simp only [List.getElem_toArray, List.getElem_cons_succ, List.getElem_cons_zero]); go_simp; with_reducible rfl)
        (try simp only [List.getElem_toArray, List.getElem_cons_succ, List.getElem_cons_zero])
        go_simp; refine hK _ ?_; clear hK K
      refine walk_both_via (some 26) (some 29) (fun y z w' => y = .pointer (some ⟨p, 0, none⟩) ∧ ∃ gg v5, z = .slice (some ⟨gg, 0, none⟩) 1 1 ∧ w'.cell? ⟨gg, 0, none⟩ = some (.int .i64 x.op) ∧ Wtr w' p v5 ((ws ++ (l.take k).flatMap cndBytes) ++ byteOf x.name.size :: txt x.name) ∧ Wrote (wr.alloc (.cells x.cells.toArray 81)) p v4 w' v5) ?_ ?_ ?_
      · refine go_yes rfl rfl (fun K hK => ?_)
        go_wp2_with fail
        refine (wr_text _ p v4 _ (Hw4.out.same HWs.out) (by have := Hlen.out; omega) x.name (by have := Hxf.out.1; omega)).mono ?_
        rintro e w5 ⟨rfl, v5, hw5, hwr5⟩
        have hnx : ¬ (wr.heap.size = p ∨ inBlock v4 wr.heap.size) := fun hk => by
          rcases hk with hk | hk
          · have := Hw4.out.lt; omega
          · have := Hw4.out.blt _ hk; omega
        have h5 := hwr5.mod.heap (heap_drew_ HW.out) hnx
        refine hK _ _ (fun _ _ => ⟨cell_of h5 rfl, cell_of h5 rfl, (cells_from2 h5).all rfl, (cells_from2 h5).is rfl⟩) ?_
        clear hK K
        refine go_yes rfl rfl (fun K hK => ?_)
        go_simp
        have h6 := heap_old (o := .cells #[.int .i64 x.op] 3) h5
        refine hK _ _ (fun _ _ => ⟨cell_of h6 rfl, cell_of h6 rfl, (cells_from2 h6).all rfl, (cells_from2 h6).is rfl⟩) ⟨_, _, rfl, rfl, w5.heap.size, v5, rfl, cell_of (heap_alloc_new w5 _) rfl, hw5.same ((Mod.refl _ w5).alloc _), ?_⟩
        exact (Wrote.after ((Mod.refl (fun _ => False) _).drew) hwr5).also ((Mod.refl (fun _ => False) w5).alloc _) (fun _ h => h.elim)
      · refine go_yes rfl rfl (fun K hK => ?_)
        go_wp2_with fail
        have hq0 : (wr.alloc (.cells x.cells.toArray 81)).heap.size = wr.heap.size + 1 := by simp
        have h5 := heap_drew_ (heap_old (o := .cells #[.int .i64 x.op] 3) HW.out)
        refine hK _ _ (fun _ _ => ⟨cell_of h5 rfl, cell_of h5 rfl, (cells_from2 h5).all rfl, (cells_from2 h5).is rfl⟩) ?_
        clear hK K
        refine go_yes rfl rfl (fun K hK => ?_)
        have hd : Mod (fun _ => False) (wr.alloc (.cells x.cells.toArray 81)) ((wr.alloc (.cells x.cells.toArray 81)).alloc (.cells #[.int .i64 x.op] 3)).drew := ((Mod.refl _ _).alloc _).drew
        have hwtd := (Hw4.out.same ((Mod.refl (fun _ => False) wr).alloc (.cells x.cells.toArray 81))).same hd
        go_wp2_with fail
        refine (wr_text _ p v4 _ hwtd (by have := Hlen.out; omega) x.name (by have := Hxf.out.1; omega)).mono ?_
        rintro e w5 ⟨rfl, v5, hw5, hwr5⟩
        have hnx : ∀ b, wr.heap.size ≤ b → ¬ (b = p ∨ inBlock v4 b) := fun b hb hk => by
          rcases hk with hk | hk
          · have := Hw4.out.lt; omega
          · have := Hw4.out.blt _ hk; omega
        have h6 := hwr5.mod.heap h5 (hnx _ (Nat.le_refl _))
        have h7 := hwr5.mod.heap (heap_drew_ (heap_alloc_new (wr.alloc (.cells x.cells.toArray 81)) (.cells #[.int .i64 x.op] 3))) (hnx _ (by omega))
        rw [hq0] at h7
        refine hK _ _ (fun _ _ => ⟨cell_of h6 rfl, cell_of h6 rfl, (cells_from2 h6).all rfl, (cells_from2 h6).is rfl⟩) ⟨_, _, rfl, rfl, wr.heap.size + 1, v5, rfl, cell_of h7 rfl, hw5, ?_⟩
        exact Wrote.after hd hwr5
      intro y z w' hR K hK
      obtain ⟨rfl, gg, v5, rfl, hgg, hw5, hwr5⟩ := hR
      go_simp
      refine hK _ _ ?_
      clear hK K
      have hl5 : ((ws ++ (l.take k).flatMap cndBytes) ++ byteOf x.name.size :: txt x.name).length ≤ 7000000 := by
        rw [List.length_append, List.length_cons, txt_length]
        have := Hlen.out
        have := Hxf.out.1
        omega
      have Hby := Lib.hid (wr_byte w' p v5 _ hw5 (by omega) x.op gg hgg)
      have Hwr5 := Lib.hid hwr5
      have Hl5 := Lib.hid hl5
      clear hw5 hgg hwr5 hl5
      refine walk_one (go_yes rfl rfl (fun K hK => ?_))
      go_wp2_with fail
      refine Hby.out.mono ?_
      rintro e w6 ⟨rfl, v6, hw6, hwr6⟩
      have hnx : ¬ (wr.heap.size = p ∨ inBlock v5 wr.heap.size) := fun hk => by
        rcases hk with hk | hk
        · have := Hw4.out.lt; omega
        · rcases Hwr5.out.new _ hk with h | h
          · have := Hw4.out.blt _ h; omega
          · have : (wr.alloc (.cells x.cells.toArray 81)).heap.size = wr.heap.size + 1 := by simp
            omega
      refine hK _ _ (fun _ hs => ⟨hwr6.mod.cell hs.1 hnx, hwr6.mod.cell hs.2.1 hnx, cells_keep hs.2.2 hwr6.mod hnx⟩) ?_
      clear hK K
      refine walk_one (go_yes rfl rfl (fun K hK => ?_))
      go_wp2_with fail
      refine (wr_value w6 p v6 _ hw6 (by have h5 := Hl5.out; rw [List.length_append (bs := [byteOf x.op])]; simp only [List.length_cons, List.length_nil]; omega) x.v (by have := Hxf.out.2.1; omega) Hxf.out.2.2).mono ?_
      rintro e w7 ⟨rfl, v7, hw7, hwr7⟩
      refine hK _ _ (fun h => absurd h (by decide)) ?_
      clear hK K
      refine walk_nil ?_
      have hwr := Hwr4.out.trans (Wrote.after ((Mod.refl (fun _ => False) wr).alloc (.cells x.cells.toArray 81)) ((Hwr5.out.trans hwr6).trans hwr7))
      have htk : ((ws ++ (l.take k).flatMap cndBytes) ++ byteOf x.name.size :: txt x.name) ++ [byteOf x.op] ++ valBytes x.v = ws ++ (l.take (k + 1)).flatMap cndBytes := by
        rw [List.take_add_one, Hx.out]
        simp [cndBytes]
      rw [htk] at hw7
      have hll6 : (ws ++ (l.take (k + 1)).flatMap cndBytes).length ≤ 1100002 + 600 * (k + 1) := by
        have h1 := Hlen.out
        have h2 := cndBytes_length x Hxf.out.1 Hxf.out.2.1
        have e : ws ++ (l.take (k + 1)).flatMap cndBytes = (ws ++ (l.take k).flatMap cndBytes) ++ cndBytes x := by
          rw [List.take_add_one, Hx.out]
          simp
        rw [e, List.length_append]
        omega
      have Hw7 := Lib.hid hw7
      have Hwr7 := Lib.hid hwr
      have Hl6 := Lib.hid hll6
      clear hw7 hwr hll6 htk hwr6 hwr7 hw6 hS Hby
      go_wp2
      go_roundw
      case rel => exact ⟨k + 1, v7, hlt, by go_num, Hw7.out, Hwr7.out, Hl6.out⟩
      case measure => simp [intOf]; omega
    · obtain rfl : k = l.length := by omega
      go_wp2
      go_ret
      refine ⟨rfl, v4, ?_, Hwr4.out⟩
      have h := Hw4.out
      rw [List.take_length] at h
      have e : bs ++ filBytes sc l = ws ++ l.flatMap cndBytes := by rw [← Hws.out]; unfold filBytes; simp
      rw [e]
      exact h
end Go.Proofs.YtloplmaekonenaaGreatDoor
