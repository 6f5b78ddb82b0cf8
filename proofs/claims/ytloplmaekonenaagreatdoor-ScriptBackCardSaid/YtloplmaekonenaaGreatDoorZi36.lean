/-
  script.op.
  script.Encode.
-/
import Derived.Test.YtloplmaekonenaaGreatDoorZi35
import Derived.Test.YtloplmaekonenaaGreatDoorZi33
import Derived.Test.YtloplmaekonenaaGreatDoorZi24
namespace Go.Proofs.YtloplmaekonenaaGreatDoor
set_option maxRecDepth 20000
open Go.RowKit
structure OpRd (w : World) (p : Nat) (v : Value) (o : PO) (y : Lie) : Prop where
  r : RdSl w 7 (.slice y.ra o.r.cs.length y.rc) o.r.cs.length (cnds o.r.cs)
  e : RdSl w 6 (.slice y.ea o.es.length y.ec) o.es.length (atts o.es)
  f : RdSl w 7 (.slice y.fa o.fs.length y.fc) o.fs.length (cnds o.fs)
  ap : ∀ b, OpBlk (o, y) b → b ≠ p ∧ ¬ inBlock v b
  lt : ∀ b, OpBlk (o, y) b → b < w.heap.size
theorem OpRd.same {w w' : World} {p : Nat} {v : Value} {o : PO} {y : Lie} (h : OpRd w p v o y) (hm : Mod (fun _ => False) w w') : OpRd w' p v o y :=
  ⟨h.r.mod hm (fun _ _ h => h), h.e.mod hm (fun _ _ h => h), h.f.mod hm (fun _ _ h => h), h.ap, fun b hb => Nat.lt_of_lt_of_le (h.lt b hb) hm.size⟩
theorem OpRd.wrote {w w' : World} {p : Nat} {v v' : Value} {o : PO} {y : Lie} (h : OpRd w p v o y) (hw : Wrote w p v w' v') : OpRd w' p v' o y :=
  ⟨h.r.mod hw.mod (fun b hb hh => hh.elim (h.ap b (.inl hb)).1 (h.ap b (.inl hb)).2), h.e.mod hw.mod (fun b hb hh => hh.elim (h.ap b (.inr (.inl hb))).1 (h.ap b (.inr (.inl hb))).2), h.f.mod hw.mod (fun b hb hh => hh.elim (h.ap b (.inr (.inr hb))).1 (h.ap b (.inr (.inr hb))).2),
    fun b hb => ⟨(h.ap b hb).1, fun hh => (hw.new b hh).elim (h.ap b hb).2 (fun h2 => by have := h.lt b hb; omega)⟩, fun b hb => Nat.lt_of_lt_of_le (h.lt b hb) hw.mod.size⟩
set_option maxRecDepth 20000 in
set_option maxHeartbeats 8000000 in
theorem wr_op (w : World) (p : Nat) (v0 : Value) (bs : List UInt8) (h : Wtr w p v0 bs) (hl : bs.length ≤ 400000) (o : PO) (y : Lie) (hf : o.fit) (hr : OpRd w p v0 o y) :
    Calls Tryz.prog 69 #[.pointer (some ⟨p, 0, none⟩), .agg (opCells o y).toArray] w fun e w' => e = .returned (.tuple #[]) ∧ ∃ v', Wtr w' p v' (bs ++ opBytes o) ∧ Wrote w p v0 w' v' := by
  obtain ⟨B, hB⟩ : ∃ B, w.heap.size = B := ⟨_, rfl⟩
  have hpB := h.lt
  have hvB := h.blt
  have ht0 := hf.t0
  obtain ⟨wb, hwb⟩ : ∃ wb : World, w.alloc (.cells (opCells o y).toArray 119) = wb := ⟨_, rfl⟩
  have hmwb : Mod (fun _ => False) w wb := hwb ▸ (Mod.refl (fun _ => False) w).alloc _
  have hgwb := heap_alloc_new w (.cells (opCells o y).toArray 119)
  rw [hwb] at hgwb
  have hzwb : wb.heap.size = w.heap.size + 1 := by rw [← hwb]; simp
  have hgwb : wb.heap[B]? = some (.cells (opCells o y).toArray 119 (0, 0)) := hB ▸ hgwb
  have c0 : wb.cell? ⟨B, 0, none⟩ = some (.int .i64 o.kind) := cell_of hgwb rfl
  have c1 : wb.cell? ⟨B, 1, none⟩ = some (.int .i64 o.ten) := cell_of hgwb rfl
  have hs2 : wb.heap.size = B + 1 := by omega
  obtain ⟨w1, hw1⟩ : ∃ w1 : World, wb.alloc (.cells #[.int .i64 o.kind, .int .i64 (o.ten + 1)] 3) = w1 := ⟨_, rfl⟩
  have hmw1 : Mod (fun _ => False) wb w1 := hw1 ▸ (Mod.refl (fun _ => False) wb).alloc _
  have hgw1 := heap_alloc_new wb (.cells #[.int .i64 o.kind, .int .i64 (o.ten + 1)] 3)
  rw [hw1] at hgw1
  have hzw1 : w1.heap.size = wb.heap.size + 1 := by rw [← hw1]; simp
  rw [hs2] at hgw1
  have hg1 := hmw1.heap hgwb (fun h => h)
  have hm01 := hmwb.trans hmw1 (fun _ _ h => h)
  have hr1 := hr.same hm01
  have hs1 : w1.heap.size = B + 2 := by omega
  have hcn : CellsAt w1 (B + 1) 0 (nums [o.kind, o.ten + 1]) := CellsAt.row hgw1
  have hby := wr_byten w1 p v0 bs (h.same hm01) (by omega) [o.kind, o.ten + 1] (by simp) (B + 1) hcn (by omega) (fun hb => by have := hvB _ hb; omega)
  have Hby := Lib.hid hby
  have Hwb := Lib.hid hwb
  have Hw1 := Lib.hid hw1
  have Hg1 := Lib.hid hg1
  have Hr1 := Lib.hid hr1
  have Hm01 := Lib.hid hm01
  have Hf := Lib.hid hf
  clear hby hwb hw1 hg1 hr1 hm01 hf hgwb hgw1 hmw1 hmwb hcn hr h
  go_enter Tryz.func69, Tryz.ntmps69
  go_wp2_with (first | (rw [show w.alloc _ = wb from Hwb.out]) | (rw [show wb.alloc _ = w1 from Hw1.out]) | fail)
  refine Hby.out.mono ?_
  rintro e w2 ⟨rfl, v1, hw2, hwr⟩
  obtain ⟨bs1, hbs1⟩ : ∃ b, bs ++ [o.kind, o.ten + 1].map byteOf = b := ⟨_, rfl⟩
  rw [hbs1] at hw2
  have hl1 : bs1.length ≤ 400002 := by rw [← hbs1]; simp; omega
  have hnB : ¬ (B = p ∨ inBlock v0 B) := fun hh => hh.elim (fun e => by omega) (fun hb => by have := hvB _ hb; omega)
  have hg2 := hwr.mod.heap Hg1.out hnB
  have hr2 := Hr1.out.wrote hwr
  have hwr2 : Wrote w p v0 w2 v1 := Wrote.after Hm01.out hwr
  have hnB1 : ¬ (B = p ∨ inBlock v1 B) := fun hh => hh.elim (fun e => by omega) (fun hb => (hwr.new B hb).elim (fun hb => by have := hvB _ hb; omega) (fun hb => by omega))
  have hs3 : B + 2 ≤ w2.heap.size := by have := hwr.mod.size; omega
  have k0 : w2.cell? ⟨B, 0, none⟩ = some (.int .i64 o.kind) := cell_of hg2 rfl
  have Hw2 := Lib.hid hw2
  have Hg2 := Lib.hid hg2
  have Hr2 := Lib.hid hr2
  have Hwr2 := Lib.hid hwr2
  have HnB1 := Lib.hid hnB1
  have Hbs1 := Lib.hid hbs1
  clear hw2 hg2 hr2 hwr2 hnB1 hbs1 hwr hnB Hby Hg1 Hr1 Hm01 Hw1 Hwb c0 c1
  by_cases hk0 : o.kind = 0
  · have q0 : (o.kind == 0) = true := by rw [hk0]; rfl
    have hob : bs ++ opBytes o = bs1 ++ ruBytes o.r := by rw [← Hbs1.out]; unfold opBytes; rw [if_pos hk0]; simp
    have hca : CellsAt w2 B 3 (o.r.lies y.ra y.rc).cells := fun j u hu => cell_of Hg2.out (by
      have hj := (List.getElem?_eq_some_iff.1 hu).1
      rw [List.getElem?_toArray]
      unfold opCells
      rw [List.append_assoc, List.getElem?_append_right (by simp), List.getElem?_append_left (by simpa using hj)]
      simpa using hu)
    have hpr := put_rule w2 p v1 bs1 Hw2.out (by omega) o.r Hf.out.r y.ra y.rc Hr2.out.r (fun _ b hb => Hr2.out.ap b (.inl hb)) (fun _ b hb => Hr2.out.lt b (.inl hb))
    have Hpr := Lib.hid hpr
    have Hob := Lib.hid hob
    have Hca := Lib.hid hca
    clear hpr hob hca
    go_wp2_with (first | ((with_reducible refine wpList_load_lit 117 (.tmp 24) ?_); refine ⟨B, 3, rfl, (o.r.lies y.ra y.rc).cells, Hca.out, by kernel_rfl, by kernel_rfl, ?_⟩) | fail)
    refine Hpr.out.mono ?_
    rintro e w3 ⟨rfl, v3, hw3, hwr3⟩
    rw [← Hob.out] at hw3
    have hwf := Hwr2.out.trans hwr3
    have Hw3 := Lib.hid hw3
    have Hwf := Lib.hid hwf
    clear hw3 hwf hwr3 Hpr Hw2 Hg2 Hr2 Hwr2
    go_wp2_with fail
    exact ⟨rfl, .tuple #[], by simp [results, Tryz.results69], rfl, v3, Hw3.out, Hwf.out⟩
  have q0 : (o.kind == 0) = false := by rw [beq_eq_false_iff_ne]; exact hk0
  by_cases hk1 : o.kind = 1
  · have q1 : (o.kind == 1) = true := by rw [hk1]; rfl
    have hob : bs ++ opBytes o = (bs1 ++ byteOf o.who.size :: txt o.who) ++ evBytes o.esc o.es := by rw [← Hbs1.out]; unfold opBytes; simp [hk1, txtBytes]
    have c2 : w2.cell? ⟨B, 2, none⟩ = some (.string o.who) := cell_of Hg2.out rfl
    have d0 : w2.cell? ⟨B, 11, none⟩ = some (.string o.esc) := cell_of Hg2.out rfl
    have d1 : w2.cell? ⟨B, 12, none⟩ = some (.slice y.ea o.es.length y.ec) := cell_of Hg2.out rfl
    have hS : w2.drew.cell? ⟨B, 2, none⟩ = some (.string o.who) ∧ w2.drew.cell? ⟨B, 11, none⟩ = some (.string o.esc) ∧ w2.drew.cell? ⟨B, 12, none⟩ = some (.slice y.ea o.es.length y.ec) := ⟨c2, d0, d1⟩
    have hwd := Hw2.out.same (Mod.refl (fun _ => False) w2).drew
    have hrd := Hr2.out.same (Mod.refl (fun _ => False) w2).drew
    have Hwd := Lib.hid hwd
    have Hrd := Lib.hid hrd
    have Hob := Lib.hid hob
    clear hwd hrd hob
    go_wp2_with fail
    refine wp_region_script [.rd 0, .rd 1, .rd 2, .rd 4, .rd 5, .go 3, .go 6] [0, 1, 2, 3, 4, 5] (fun z : World => z.cell? ⟨B, 2, none⟩ = some (.string o.who) ∧ z.cell? ⟨B, 11, none⟩ = some (.string o.esc) ∧ z.cell? ⟨B, 12, none⟩ = some (.slice y.ea o.es.length y.ec)) (by kernel_rfl) (by kernel_rfl) (fun _ _ d _ _ h => (by cases d <;> exact h)) ?_
    iterate 5
      refine walk_rd rfl ?_ (fun _ => hS) ?_ (fun w0 h0 => ?_) (fun K hK => ?_)
      · (try simp only [List.getElem_toArray]); (try simp only [List.getElem_cons_succ]); (try simp only [List.getElem_cons_zero])
        go_simp; done
      rotate_left
      · (try simp only [List.getElem_toArray]); (try simp only [List.getElem_cons_succ]); (try simp only [List.getElem_cons_zero])
        first
          | (obtain ⟨f0, f1, f2⟩ := h0 rfl; clear h0; go_simp; with_reducible rfl)
          | (clear h0; go_simp; with_reducible rfl)
      (try simp only [List.getElem_toArray]); (try simp only [List.getElem_cons_succ]); (try simp only [List.getElem_cons_zero])
      go_simp; refine hK _ ?_; clear hK K
    refine walk_one (go_yes rfl ?_ (fun K hK => ?_))
    · (try simp only [List.getElem_toArray]); (try simp only [List.getElem_cons_succ]); (try simp only [List.getElem_cons_zero])
      go_simp; done
    go_wp2_with fail
    refine (wr_text w2.drew p v1 bs1 Hwd.out (by omega) o.who (by have := Hf.out.who; omega)).mono ?_
    rintro e w3 ⟨rfl, v3, hw3, hwr3⟩
    refine hK _ _ (fun _ h => ⟨hwr3.mod.cell h.1 HnB1.out, hwr3.mod.cell h.2.1 HnB1.out, hwr3.mod.cell h.2.2 HnB1.out⟩) ?_
    clear hK K
    have hr3 := Hrd.out.wrote hwr3
    have hl3 : (bs1 ++ byteOf o.who.size :: txt o.who).length ≤ 400300 := by rw [List.length_append, List.length_cons, txt_length]; have := Hf.out.who; omega
    have hw23 : Wrote w p v0 w3 v3 := Hwr2.out.trans (Wrote.after (Mod.refl (fun _ => False) w2).drew hwr3)
    have Hw3 := Lib.hid hw3
    have Hr3 := Lib.hid hr3
    have Hw23 := Lib.hid hw23
    clear hw3 hr3 hw23 hwr3
    refine walk_one (go_yes rfl ?_ (fun K hK => ?_))
    · (try simp only [List.getElem_toArray]); (try simp only [List.getElem_cons_succ]); (try simp only [List.getElem_cons_zero])
      go_simp; done
    go_wp2_with fail
    refine (wr_event w3 p v3 _ Hw3.out (by omega) o.esc (by have := Hf.out.esc; omega) (.slice y.ea o.es.length y.ec) o.es Hr3.out.e Hf.out.elen Hf.out.es (fun b hb => Hr3.out.ap b (.inr (.inl hb)))).mono ?_
    rintro e w4 ⟨rfl, v4, hw4, hwr4⟩
    refine hK _ _ (fun h => absurd h (by decide)) ?_
    clear hK K
    refine walk_nil ?_
    rw [← Hob.out] at hw4
    have hwf := Hw23.out.trans hwr4
    have Hw4 := Lib.hid hw4
    have Hwf := Lib.hid hwf
    clear hw4 hwf hwr4
    go_wp2_with fail
    exact ⟨rfl, .tuple #[], by simp [results, Tryz.results69], rfl, v4, Hw4.out, Hwf.out⟩
  have q1 : (o.kind == 1) = false := by rw [beq_eq_false_iff_ne]; exact hk1
  by_cases hk2 : o.kind = 2
  · have q2 : (o.kind == 2) = true := by rw [hk2]; rfl
    have hob : bs ++ opBytes o = (bs1 ++ byteOf o.who.size :: txt o.who) ++ filBytes o.fsc o.fs := by rw [← Hbs1.out]; unfold opBytes; simp [hk2, txtBytes]
    have c2 : w2.cell? ⟨B, 2, none⟩ = some (.string o.who) := cell_of Hg2.out rfl
    have d0 : w2.cell? ⟨B, 13, none⟩ = some (.string o.fsc) := cell_of Hg2.out rfl
    have d1 : w2.cell? ⟨B, 14, none⟩ = some (.slice y.fa o.fs.length y.fc) := cell_of Hg2.out rfl
    have hS : w2.drew.cell? ⟨B, 2, none⟩ = some (.string o.who) ∧ w2.drew.cell? ⟨B, 13, none⟩ = some (.string o.fsc) ∧ w2.drew.cell? ⟨B, 14, none⟩ = some (.slice y.fa o.fs.length y.fc) := ⟨c2, d0, d1⟩
    have hwd := Hw2.out.same (Mod.refl (fun _ => False) w2).drew
    have hrd := Hr2.out.same (Mod.refl (fun _ => False) w2).drew
    have Hwd := Lib.hid hwd
    have Hrd := Lib.hid hrd
    have Hob := Lib.hid hob
    clear hwd hrd hob
    go_wp2_with fail
    refine wp_region_script [.rd 0, .rd 1, .rd 2, .rd 4, .rd 5, .go 3, .go 6] [0, 1, 2, 3, 4, 5] (fun z : World => z.cell? ⟨B, 2, none⟩ = some (.string o.who) ∧ z.cell? ⟨B, 13, none⟩ = some (.string o.fsc) ∧ z.cell? ⟨B, 14, none⟩ = some (.slice y.fa o.fs.length y.fc)) (by kernel_rfl) (by kernel_rfl) (fun _ _ d _ _ h => (by cases d <;> exact h)) ?_
    iterate 5
      refine walk_rd rfl ?_ (fun _ => hS) ?_ (fun w0 h0 => ?_) (fun K hK => ?_)
      · (try simp only [List.getElem_toArray]); (try simp only [List.getElem_cons_succ]); (try simp only [List.getElem_cons_zero])
        go_simp; done
      rotate_left
      · (try simp only [List.getElem_toArray]); (try simp only [List.getElem_cons_succ]); (try simp only [List.getElem_cons_zero])
        first
          | (obtain ⟨f0, f1, f2⟩ := h0 rfl; clear h0; go_simp; with_reducible rfl)
          | (clear h0; go_simp; with_reducible rfl)
      (try simp only [List.getElem_toArray]); (try simp only [List.getElem_cons_succ]); (try simp only [List.getElem_cons_zero])
      go_simp; refine hK _ ?_; clear hK K
    refine walk_one (go_yes rfl ?_ (fun K hK => ?_))
    · (try simp only [List.getElem_toArray]); (try simp only [List.getElem_cons_succ]); (try simp only [List.getElem_cons_zero])
      go_simp; done
    go_wp2_with fail
    refine (wr_text w2.drew p v1 bs1 Hwd.out (by omega) o.who (by have := Hf.out.who; omega)).mono ?_
    rintro e w3 ⟨rfl, v3, hw3, hwr3⟩
    refine hK _ _ (fun _ h => ⟨hwr3.mod.cell h.1 HnB1.out, hwr3.mod.cell h.2.1 HnB1.out, hwr3.mod.cell h.2.2 HnB1.out⟩) ?_
    clear hK K
    have hr3 := Hrd.out.wrote hwr3
    have hl3 : (bs1 ++ byteOf o.who.size :: txt o.who).length ≤ 400300 := by rw [List.length_append, List.length_cons, txt_length]; have := Hf.out.who; omega
    have hw23 : Wrote w p v0 w3 v3 := Hwr2.out.trans (Wrote.after (Mod.refl (fun _ => False) w2).drew hwr3)
    have Hw3 := Lib.hid hw3
    have Hr3 := Lib.hid hr3
    have Hw23 := Lib.hid hw23
    clear hw3 hr3 hw23 hwr3
    refine walk_one (go_yes rfl ?_ (fun K hK => ?_))
    · (try simp only [List.getElem_toArray]); (try simp only [List.getElem_cons_succ]); (try simp only [List.getElem_cons_zero])
      go_simp; done
    go_wp2_with fail
    refine (wr_filter w3 p v3 _ Hw3.out (by omega) o.fsc (by have := Hf.out.fsc; omega) (.slice y.fa o.fs.length y.fc) o.fs Hr3.out.f Hf.out.flen Hf.out.fs (fun _ b hb => Hr3.out.ap b (.inr (.inr hb)))).mono ?_
    rintro e w4 ⟨rfl, v4, hw4, hwr4⟩
    refine hK _ _ (fun h => absurd h (by decide)) ?_
    clear hK K
    refine walk_nil ?_
    rw [← Hob.out] at hw4
    have hwf := Hw23.out.trans hwr4
    have Hw4 := Lib.hid hw4
    have Hwf := Lib.hid hwf
    clear hw4 hwf hwr4
    go_wp2_with fail
    exact ⟨rfl, .tuple #[], by simp [results, Tryz.results69], rfl, v4, Hw4.out, Hwf.out⟩
  have q2 : (o.kind == 2) = false := by rw [beq_eq_false_iff_ne]; exact hk2
  by_cases hk3 : o.kind = 3
  · have q3 : (o.kind == 3) = true := by rw [hk3]; rfl
    have hob : bs ++ opBytes o = (bs1 ++ byteOf o.who.size :: txt o.who) ++ [o.sub].map byteOf := by rw [← Hbs1.out]; unfold opBytes; simp [hk3, txtBytes]
    have c2 : w2.cell? ⟨B, 2, none⟩ = some (.string o.who) := cell_of Hg2.out rfl
    have d0 : w2.cell? ⟨B, 15, none⟩ = some (.int .i64 o.sub) := cell_of Hg2.out rfl
    have hS : w2.drew.cell? ⟨B, 2, none⟩ = some (.string o.who) ∧ w2.drew.cell? ⟨B, 15, none⟩ = some (.int .i64 o.sub) := ⟨c2, d0⟩
    have hwd := Hw2.out.same (Mod.refl (fun _ => False) w2).drew
    have hws : Hid (o.who.size ≤ 255) := Lib.hid Hf.out.who
    have Hwd := Lib.hid hwd
    have Hob := Lib.hid hob
    clear hwd hob
    go_wp2_with fail
    refine wp_region_script [.rd 0, .rd 1, .rd 2, .rd 4, .rd 5, .both 3 6, .go 7] [0, 1, 2, 3, 4, 5, 6] (fun z : World => z.cell? ⟨B, 2, none⟩ = some (.string o.who) ∧ z.cell? ⟨B, 15, none⟩ = some (.int .i64 o.sub)) (by kernel_rfl) (by kernel_rfl) (fun _ _ d _ _ h => (by cases d <;> exact h)) ?_
    iterate 5
      refine walk_rd rfl ?_ (fun _ => hS) ?_ (fun w0 h0 => ?_) (fun K hK => ?_)
      · (try simp only [List.getElem_toArray]); (try simp only [List.getElem_cons_succ]); (try simp only [List.getElem_cons_zero])
        go_simp; done
      rotate_left
      · (try simp only [List.getElem_toArray]); (try simp only [List.getElem_cons_succ]); (try simp only [List.getElem_cons_zero])
        first
          | (obtain ⟨f0, f1⟩ := h0 rfl; clear h0; go_simp; with_reducible rfl)
          | (clear h0; go_simp; with_reducible rfl)
      (try simp only [List.getElem_toArray]); (try simp only [List.getElem_cons_succ]); (try simp only [List.getElem_cons_zero])
      go_simp; refine hK _ ?_; clear hK K
    refine walk_both_via (some 50) (some 53) (fun x z w' => x = .pointer (some ⟨p, 0, none⟩) ∧ ∃ gg v5, z = .slice (some ⟨gg, 0, none⟩) 1 1 ∧ Args w2 w' p v5 gg [o.sub] ∧ Wtr w' p v5 (bs1 ++ byteOf o.who.size :: txt o.who) ∧ Wrote w p v0 w' v5) ?_ ?_ ?_
    · refine go_yes rfl ?_ (fun K hK => ?_)
      · (try simp only [List.getElem_toArray]); (try simp only [List.getElem_cons_succ]); (try simp only [List.getElem_cons_zero])
        go_simp; done
      (try simp only [List.getElem_toArray]); (try simp only [List.getElem_cons_succ]); (try simp only [List.getElem_cons_zero])
      go_wp2_with fail
      refine (wr_text w2.drew p v1 bs1 Hwd.out (by omega) o.who (by have := hws.out; omega)).mono ?_
      rintro e w3 ⟨rfl, v3, hw3, hwr3⟩
      refine hK _ _ (fun _ h => ⟨hwr3.mod.cell h.1 HnB1.out, hwr3.mod.cell h.2 HnB1.out⟩) ?_
      clear hK K
      refine go_yes rfl ?_ (fun K hK => ?_)
      · (try simp only [List.getElem_toArray]); (try simp only [List.getElem_cons_succ]); (try simp only [List.getElem_cons_zero])
        go_simp; done
      (try simp only [List.getElem_toArray]); (try simp only [List.getElem_cons_succ]); (try simp only [List.getElem_cons_zero])
      go_simp
      have hsz : w2.heap.size ≤ w3.heap.size := hwr3.mod.size
      refine hK _ _ (fun _ h => ⟨cell_new h.1 _, cell_new h.2 _⟩) ⟨_, _, rfl, rfl, w3.heap.size, v3, rfl, Args.new (l := [o.sub]) hw3 hsz 3, hw3.same ((Mod.refl _ w3).alloc _), ?_⟩
      exact (Hwr2.out.trans (Wrote.after (Mod.refl (fun _ => False) w2).drew hwr3)).also ((Mod.refl (fun _ => False) w3).alloc _) (fun _ h => h.elim)
    · refine go_yes rfl ?_ (fun K hK => ?_)
      · (try simp only [List.getElem_toArray]); (try simp only [List.getElem_cons_succ]); (try simp only [List.getElem_cons_zero])
        go_simp; done
      (try simp only [List.getElem_toArray]); (try simp only [List.getElem_cons_succ]); (try simp only [List.getElem_cons_zero])
      go_simp
      refine hK _ _ (fun _ h => ⟨cell_new h.1 _, cell_new h.2 _⟩) ?_
      clear hK K
      refine go_yes rfl ?_ (fun K hK => ?_)
      · (try simp only [List.getElem_toArray]); (try simp only [List.getElem_cons_succ]); (try simp only [List.getElem_cons_zero])
        go_simp; done
      (try simp only [List.getElem_toArray]); (try simp only [List.getElem_cons_succ]); (try simp only [List.getElem_cons_zero])
      go_wp2_with fail
      have hd : Mod (fun _ => False) w2 (w2.alloc (.cells #[.int .i64 o.sub] 3)).drew := ((Mod.refl _ w2).alloc _).drew
      refine (wr_text _ p v1 bs1 (Hw2.out.same hd) (by omega) o.who (by have := hws.out; omega)).mono ?_
      rintro e w3 ⟨rfl, v3, hw3, hwr3⟩
      have har : Args w2 (w2.alloc (.cells #[.int .i64 o.sub] 3)).drew p v1 w2.heap.size [o.sub] := (Args.new (l := [o.sub]) Hw2.out (Nat.le_refl _) 3).mod (Mod.refl (fun _ => False) _).drew
      refine hK _ _ (fun _ h => ⟨hwr3.mod.cell h.1 HnB1.out, hwr3.mod.cell h.2 HnB1.out⟩) ⟨_, _, rfl, rfl, w2.heap.size, v3, rfl, har.wrote hwr3, hw3, Hwr2.out.trans (Wrote.after hd hwr3)⟩
    intro x z w' hR K hK
    obtain ⟨rfl, gg, v5, rfl, har, hw5, hwr5⟩ := hR
    go_simp
    refine hK _ _ ?_
    clear hK K
    have hl3 : (bs1 ++ byteOf o.who.size :: txt o.who).length ≤ 400300 := by rw [List.length_append, List.length_cons, txt_length]; have := hws.out; omega
    refine walk_one (go_yes rfl ?_ (fun K hK => ?_))
    · (try simp only [List.getElem_toArray]); (try simp only [List.getElem_cons_succ]); (try simp only [List.getElem_cons_zero])
      go_simp; done
    go_wp2_with fail
    refine (wr_byten w' p v5 _ hw5 (by omega) [o.sub] (by simp) gg har.at_ har.ne har.nb).mono ?_
    rintro e w6 ⟨rfl, v6, hw6, hwr6⟩
    refine hK _ _ (fun h => absurd h (by decide)) ?_
    clear hK K
    refine walk_nil ?_
    rw [← Hob.out] at hw6
    have hwf := hwr5.trans hwr6
    have Hw6 := Lib.hid hw6
    have Hwf := Lib.hid hwf
    clear hw6 hwf hwr6 hwr5 hw5 har
    go_wp2_with fail
    exact ⟨rfl, .tuple #[], by simp [results, Tryz.results69], rfl, v6, Hw6.out, Hwf.out⟩
  have q3 : (o.kind == 3) = false := by rw [beq_eq_false_iff_ne]; exact hk3
  have hob : bs ++ opBytes o = bs1 ++ [o.frm, o.to_].map byteOf := by rw [← Hbs1.out]; unfold opBytes; simp [hk0, hk1, hk2, hk3]
  have d0 : w2.cell? ⟨B, 16, none⟩ = some (.int .i64 o.frm) := cell_of Hg2.out rfl
  have d1 : w2.cell? ⟨B, 17, none⟩ = some (.int .i64 o.to_) := cell_of Hg2.out rfl
  obtain ⟨w3, hw3⟩ : ∃ w3 : World, w2.alloc (.cells #[.int .i64 o.frm, .int .i64 o.to_] 3) = w3 := ⟨_, rfl⟩
  have hmw3 : Mod (fun _ => False) w2 w3 := hw3 ▸ (Mod.refl (fun _ => False) w2).alloc _
  have hgw3 := heap_alloc_new w2 (.cells #[.int .i64 o.frm, .int .i64 o.to_] 3)
  rw [hw3] at hgw3
  have hzw3 : w3.heap.size = w2.heap.size + 1 := by rw [← hw3]; simp
  have har : Args w2 w3 p v1 w2.heap.size [o.frm, o.to_] := hw3 ▸ Args.new (l := [o.frm, o.to_]) Hw2.out (Nat.le_refl _) 3
  have hb3 := wr_byten w3 p v1 bs1 (Hw2.out.same hmw3) (by omega) [o.frm, o.to_] (by simp) w2.heap.size har.at_ har.ne har.nb
  have hwr3 : Wrote w p v0 w3 v1 := Hwr2.out.also hmw3 (fun _ h => h.elim)
  have Hob := Lib.hid hob
  have Hb3 := Lib.hid hb3
  have Hw3 := Lib.hid hw3
  have Hwr3 := Lib.hid hwr3
  clear hob hb3 hw3 hwr3 har hgw3 hzw3 hmw3
  go_wp2_with (first | (rw [show w2.alloc _ = w3 from Hw3.out]) | fail)
  refine Hb3.out.mono ?_
  rintro e w4 ⟨rfl, v4, hw4, hwr4⟩
  rw [← Hob.out] at hw4
  have hwf := Hwr3.out.trans hwr4
  have Hw4 := Lib.hid hw4
  have Hwf := Lib.hid hwf
  clear hw4 hwf hwr4 Hb3 Hwr3
  go_wp2_with fail
  exact ⟨rfl, .tuple #[], by simp [results, Tryz.results69], rfl, v4, Hw4.out, Hwf.out⟩
end Go.Proofs.YtloplmaekonenaaGreatDoor
namespace Go.Proofs.YtloplmaekonenaaGreatDoor
set_option maxRecDepth 20000
open Go.RowKit
theorem rd_op {w : World} {a : Option Addr} {cap : Nat} {l : List (PO × Lie)} {j : Nat} {x : PO × Lie} (h : RdSl w 18 (.slice a l.length cap) l.length (opsCells l)) (hx : l[j]? = some x) : ∃ g off, a = some ⟨g, off, none⟩ ∧ CellsAt w g (off + j * 18) (opCells x.1 x.2) := by
  obtain ⟨-, a', c', h1, -, h3, h4⟩ := h
  cases h1
  cases a with
  | none => have := (List.getElem?_eq_some_iff.1 hx).1; exact absurd (h3 rfl) (by omega)
  | some b =>
    obtain ⟨g', off', h5, h6⟩ := h4 _ rfl (by have := (List.getElem?_eq_some_iff.1 hx).1; omega)
    refine ⟨g', off', by rw [h5], fun i u hu => ?_⟩
    have := h6 (18 * j + i) u (opsCells_at _ hx hu)
    rw [show off' + j * 18 + i = off' + (18 * j + i) by omega]
    exact this
def encB (l : List (PO × Lie)) : List UInt8 := (l.map Prod.fst).flatMap opBytes
theorem encB_next {l : List (PO × Lie)} {k : Nat} {p : PO × Lie} (h : l[k]? = some p) : encB (l.take k) ++ opBytes p.1 = encB (l.take (k + 1)) := by
  unfold encB
  rw [List.take_add_one, h]
  simp
theorem encB_len (l : List (PO × Lie)) (k : Nat) : (encB (l.take k)).length ≤ (encB l).length := by
  have : encB l = encB (l.take k) ++ encB (l.drop k) := by
    unfold encB
    rw [← List.flatMap_append, ← List.map_append, List.take_append_drop]
  rw [this, List.length_append]
  omega
set_option maxRecDepth 20000 in
set_option maxHeartbeats 4000000 in
theorem encode_rd (w : World) (v : Value) (l : List (PO × Lie)) (B : Nat) (hown : RdSl w 18 v l.length (opsCells l)) (hvl : ∀ b, v.ownBlock = some b → b < w.heap.size) (hops : ∀ q ∈ l, OpOwn w B q.1 q.2) (hfit : ∀ p ∈ l, p.1.fit) (hlen : (encB l).length ≤ 300000) (hll : l.length ≤ 100000) :
    Calls Tryz.prog 39 #[v] w fun e w' => ∃ v', e = .returned v' ∧ OwnSl w' 5 1 v' (encB l).length (u8s (encB l)) ∧ (∀ b, v'.ownBlock = some b → w.heap.size ≤ b) ∧ Mod (fun _ => False) w w' := by
  obtain ⟨va, vc, rfl, hvc⟩ : ∃ a c, v = .slice a l.length c ∧ l.length ≤ c := by obtain ⟨-, a, c, h, h2, -⟩ := hown; exact ⟨a, c, h, h2⟩
  have hll' : (l.length : Int) ≤ 100000 := by omega
  have hvc' : (l.length : Int) ≤ vc := by omega
  obtain ⟨p, hp⟩ : ∃ p, w.heap.size = p := ⟨_, rfl⟩
  obtain ⟨wb, hwb⟩ : ∃ wb : World, w.alloc (.cells #[.slice none 0 0] 124) = wb := ⟨_, rfl⟩
  have hmwb : Mod (fun _ => False) w wb := hwb ▸ (Mod.refl (fun _ => False) w).alloc _
  have hgwb := heap_alloc_new w (.cells #[.slice none 0 0] 124)
  rw [hwb] at hgwb
  have hzwb : wb.heap.size = w.heap.size + 1 := by rw [← hwb]; simp
  rw [hp] at hgwb hzwb
  have hwt0 : Wtr wb p (.slice none 0 0) [] := ⟨hgwb, OwnSl.nil _ _ _⟩
  have hw0 := Wrote.refl wb p (.slice none 0 0)
  have Hwb := Lib.hid hwb
  have Hwt0 := Lib.hid hwt0
  have Hw0 := Lib.hid hw0
  have Hmwb := Lib.hid hmwb
  have Hown := Lib.hid hown
  have Hvl := Lib.hid hvl
  have Hops := Lib.hid hops
  have Hfit := Lib.hid hfit
  clear hwb hwt0 hw0 hmwb hown hvl hops hfit hgwb hvc
  go_enter Tryz.func39, Tryz.ntmps39
  go_wp2_with (first | (rw [show w.alloc _ = wb from Hwb.out]) | fail)
  go_loopw [8] (fun i wr => ∃ (k : Nat) (vw : Value), i = .int .i64 k ∧ k ≤ l.length ∧ Wtr wr p vw (encB (l.take k)) ∧ Wrote wb p (.slice none 0 0) wr vw) (fun i _ => l.length - (intOf i).toNat)
  case atStart => exact ⟨0, _, rfl, Nat.zero_le _, Hwt0.out, Hw0.out⟩
  case round =>
    obtain ⟨k, vw, rfl, hk, hwt, hwr⟩ := hrel
    have hbl := encB_len l k
    by_cases hlt : k < l.length
    · have hlt' : (k : Int) < l.length := by omega
      obtain ⟨⟨o, y⟩, hok⟩ : ∃ q, l[k]? = some q := ⟨_, List.getElem?_eq_getElem hlt⟩
      have hom := List.mem_of_getElem? hok
      have hF : ∀ b, b < p → ¬ (b = p ∨ inBlock (.slice none 0 0) b) := fun b hb hh => hh.elim (fun e => by omega) (fun e => by cases e)
      obtain ⟨g, off, rfl, hc⟩ : ∃ g off, va = some ⟨g, off, none⟩ ∧ CellsAt wr g (off + k * 18) (opCells o y) := rd_op ((Hown.out.mod Hmwb.out (fun _ _ h => h)).mod hwr.mod (fun b hb => hF b (by have := Hvl.out b hb; omega))) hok
      have ho := Hops.out _ hom
      have hlo : ∀ b, OpBlk (o, y) b → b < p := fun b hb => by have := (ho.lt (p := (o, y)) hb).2; omega
      have ho2 := (ho.keep (p := (o, y)) Hmwb.out (fun _ _ h => h)).keep (p := (o, y)) hwr.mod (fun b hb => hF b (hlo b hb))
      have hrs := hwr.mod.size
      have hrd : OpRd wr p vw o y := ⟨ho2.r.rd, ho2.e.rd, ho2.f.rd, fun b hb => ⟨fun e => by have := hlo b hb; omega, fun e => (hwr.new b e).elim (fun e => by cases e) (fun e => by have := hlo b hb; omega)⟩, fun b hb => by have := hlo b hb; omega⟩
      obtain ⟨wz, hwz⟩ : ∃ wz : World, wr.alloc (.cells (opCells o y).toArray 119) = wz := ⟨_, rfl⟩
      have hmwz : Mod (fun _ => False) wr wz := hwz ▸ (Mod.refl (fun _ => False) wr).alloc _
      have hgwz := heap_alloc_new wr (.cells (opCells o y).toArray 119)
      rw [hwz] at hgwz
      have hzwz : wz.heap.size = wr.heap.size + 1 := by rw [← hwz]; simp
      have hcall := wr_op wz p vw _ (hwt.same hmwz) (by omega) o y (Hfit.out _ hom) (hrd.same hmwz)
      have hnx := encB_next hok
      have hwz2 := hwr.also hmwz (fun _ h => h.elim)
      have Hc := Lib.hid hc
      have Hwz := Lib.hid hwz
      have Hgwz := Lib.hid hgwz
      have Hcall := Lib.hid hcall
      have Hnx := Lib.hid hnx
      have Hwz2 := Lib.hid hwz2
      clear hc hwz hgwz hcall hnx hwz2 hwt hwr hok hom ho ho2 hrd hmwz hzwz hlo
      go_wp2_with (first | ((with_reducible refine wpList_load_lit 119 (.tmp 10) ?_); refine ⟨g, off + k * 18, rfl, opCells o y, Hc.out, by kernel_rfl, by kernel_rfl, ?_⟩) | ((with_reducible refine wpList_store_lit 119 (.tmp 5) (.tmp 11) ?_); refine ⟨rfl, opCells o y, rfl, rfl, by kernel_rfl, rfl, ?_⟩; rw [Hwz.out]) | ((with_reducible refine wpList_load_lit 119 (.tmp 5) ?_); refine ⟨wr.heap.size, 0, rfl, opCells o y, CellsAt.row Hgwz.out, by kernel_rfl, by kernel_rfl, ?_⟩) | fail)
      refine Hcall.out.mono ?_
      rintro e w4 ⟨rfl, vw2, hw4, hwr4⟩
      rw [Hnx.out] at hw4
      have hwr5 := Hwz2.out.trans hwr4
      have Hw4 := Lib.hid hw4
      have Hwr5 := Lib.hid hwr5
      clear hw4 hwr5 hwr4 Hcall Hwz2
      go_wp2_with fail
      go_roundw
      case rel => exact ⟨k + 1, vw2, by go_num, hlt, Hw4.out, Hwr5.out⟩
      case measure => simp [intOf]; omega
    · obtain rfl : l.length = k := by omega
      rw [List.take_length] at hwt
      have hby := wr_bytes wr p vw _ hwt (by omega)
      have Hby := Lib.hid hby
      have Hwr := Lib.hid hwr
      clear hby hwr hwt
      go_wp2_with fail
      refine Hby.out.mono ?_
      rintro e w5 ⟨v5, rfl, ho5, hb5, hm5⟩
      have hsz5 : w.heap.size ≤ wr.heap.size := Nat.le_trans Hmwb.out.size Hwr.out.mod.size
      have hm05 : Mod (fun _ => False) w w5 := ((Hmwb.out.upon Hwr.out.mod (fun b hb => hb.elim (fun e => .inr (by omega)) (fun e => by cases e)))).trans hm5 (fun _ _ h => h)
      have Ho5 := Lib.hid ho5
      have Hm05 := Lib.hid hm05
      have Hb5 := Lib.hid hb5
      clear ho5 hm05 hb5 hm5 Hby Hwr
      go_wp2_with fail
      go_ret
      exact ⟨_, rfl, Ho5.out, fun b hb => Nat.le_trans hsz5 (Hb5.out b hb), Hm05.out⟩
theorem encode_at (w : World) (v : Value) (l : List (PO × Lie)) (B : Nat) (h : OpsAt w B v l) (hfit : ∀ p ∈ l, p.1.fit) (hlen : (encB l).length ≤ 300000) (hll : l.length ≤ 100000) :
    Calls Tryz.prog 39 #[v] w fun e w' => ∃ v', e = .returned v' ∧ OwnSl w' 5 1 v' (encB l).length (u8s (encB l)) ∧ (∀ b, v'.ownBlock = some b → w.heap.size ≤ b) ∧ Mod (fun _ => False) w w' :=
  encode_rd w v l B h.own.rd h.own.lt h.ops hfit hlen hll
end Go.Proofs.YtloplmaekonenaaGreatDoor
