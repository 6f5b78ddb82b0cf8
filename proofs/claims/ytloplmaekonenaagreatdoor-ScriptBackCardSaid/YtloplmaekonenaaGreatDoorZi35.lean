/-
  wire.PutRule.
-/
import Derived.Test.YtloplmaekonenaaGreatDoorZi34
namespace Go.Proofs.YtloplmaekonenaaGreatDoor
set_option maxRecDepth 20000
open Go.RowKit
set_option maxRecDepth 20000 in
set_option maxHeartbeats 16000000 in
theorem put_rule (w : World) (p : Nat) (v0 : Value) (bs : List UInt8) (h : Wtr w p v0 bs) (hl : bs.length ≤ 700000) (r : PRu) (hf : r.fit) (a : Option Addr) (cap : Nat) (hcs : RdSl w 7 (.slice a r.cs.length cap) r.cs.length (cnds r.cs))
    (hap : 0 < r.cs.length → ∀ b, (Value.slice a r.cs.length cap).ownBlock = some b → b ≠ p ∧ ¬ inBlock v0 b) (hal : 0 < r.cs.length → ∀ b, (Value.slice a r.cs.length cap).ownBlock = some b → b < w.heap.size) :
    Calls Tryz.prog 104 #[.pointer (some ⟨p, 0, none⟩), .agg (r.lies a cap).cells.toArray] w fun e w' => e = .returned (.tuple #[]) ∧ ∃ v', Wtr w' p v' (bs ++ ruBytes r) ∧ Wrote w p v0 w' v' := by
  obtain ⟨wb, hwb⟩ : ∃ wb : World, w.alloc (.cells (r.lies a cap).cells.toArray 117) = wb := ⟨_, rfl⟩
  have hmwb : Mod (fun _ => False) w wb := hwb ▸ (Mod.refl (fun _ => False) w).alloc _
  have hgwb := heap_alloc_new w (.cells (r.lies a cap).cells.toArray 117)
  rw [hwb] at hgwb
  have hzwb : wb.heap.size = w.heap.size + 1 := by rw [← hwb]; simp
  have hpB := h.lt
  have hvB := h.blt
  have hwb0 := h.same hmwb
  have hcsb := hcs.mod hmwb (fun _ _ h => h)
  have hS : RuCells wb.drew w.heap.size r a cap := ⟨cell_of (heap_drew_ hgwb) rfl, cell_of (heap_drew_ hgwb) rfl, cell_of (heap_drew_ hgwb) rfl, cell_of (heap_drew_ hgwb) rfl, cell_of (heap_drew_ hgwb) rfl, cell_of (heap_drew_ hgwb) rfl, cell_of (heap_drew_ hgwb) rfl, cell_of (heap_drew_ hgwb) rfl⟩
  have hst0 : PutSt wb p v0 bs r 0 none none none wb.drew v0 := ⟨by have := hwb0.same (Mod.refl (fun _ => False) wb).drew; simpa [putPre] using this, (Wrote.refl wb p v0).also (Mod.refl (fun _ => False) wb).drew (fun _ h => h.elim), fun g hg => (by cases hg), fun g hg => (by cases hg), fun g hg => (by cases hg)⟩
  have hnB : ∀ c x5 x12 x22 w1 v1, PutSt wb p v0 bs r c x5 x12 x22 w1 v1 → ¬ (w.heap.size = p ∨ inBlock v1 w.heap.size) := fun c x5 x12 x22 w1 v1 hs hh => by
    rcases hh with hh | hh
    · omega
    · rcases hs.wrote.new _ hh with h2 | h2
      · have := hvB _ h2; omega
      · omega
  have hrd : ∀ c x5 x12 x22 w1 v1, PutSt wb p v0 bs r c x5 x12 x22 w1 v1 → RdSl w1 7 (.slice a r.cs.length cap) r.cs.length (cnds r.cs) ∧ (0 < r.cs.length → ∀ b, (Value.slice a r.cs.length cap).ownBlock = some b → b ≠ p ∧ ¬ inBlock v1 b) := fun c x5 x12 x22 w1 v1 hs =>
    ⟨hcsb.modE hs.wrote.mod (fun hn b hb hh => hh.elim (hap hn b hb).1 (hap hn b hb).2), fun hn b hb => ⟨(hap hn b hb).1, fun hh => (hs.wrote.new b hh).elim (hap hn b hb).2 (fun h2 => by have := hal hn b hb; omega)⟩⟩
  have hpl : ∀ c, (putPre r c).length ≤ 200000 := put_len r hf
  have hlen : ∀ c, (bs ++ putPre r c).length ≤ 900000 := fun c => by have := hpl c; rw [List.length_append]; omega
  have hmB := hmwb
  have Hwb := Lib.hid hwb
  have HnB := Lib.hid hnB
  have Hrd := Lib.hid hrd
  have Hlen := Lib.hid hlen
  have Hst0 := Lib.hid hst0
  have Hf := Lib.hid hf
  have HmB := Lib.hid hmB
  clear hwb hnB hrd hlen hst0 hf hmB hwb0 hcsb hgwb hmwb hcs hap hal h hpl
  go_enter Tryz.func104, Tryz.ntmps104
  go_wp2_with fail
  rw [show w.alloc _ = wb from Hwb.out]
  refine wp_region_any6 [0, 1, 2, 3, 4, 5, 6, 7, 8, 9, 10, 11, 12, 13, 14, 15, 16, 17, 18, 19, 20, 21, 22, 23] (fun y : World => RuCells y w.heap.size r a cap) (by kernel_rfl) (by kernel_rfl) (fun _ _ d _ _ h => (by cases d <;> exact h)) ?_
  refine an_rd (i := 0) (by kernel_rfl) rfl ?_ (fun _ => hS) ?_ (fun w0 h0 => ?_) (fun K hK => ?_)
  · (try simp only [List.getElem_toArray]); (try simp only [List.getElem_cons_succ]); (try simp only [List.getElem_cons_zero])
    go_simp; done
  rotate_left
  · (try simp only [List.getElem_toArray]); (try simp only [List.getElem_cons_succ]); (try simp only [List.getElem_cons_zero])
    first
      | (obtain ⟨f0, f1, f2, f3, f4, f5, f6, f7⟩ := h0 rfl; clear h0; go_simp; with_reducible rfl)
      | (clear h0; go_simp; with_reducible rfl)
  (try simp only [List.getElem_toArray]); (try simp only [List.getElem_cons_succ]); (try simp only [List.getElem_cons_zero])
  go_simp; refine hK _ ?_; clear hK K
  refine an_rd (i := 1) (by kernel_rfl) rfl ?_ (fun _ => hS) ?_ (fun w0 h0 => ?_) (fun K hK => ?_)
  · (try simp only [List.getElem_toArray]); (try simp only [List.getElem_cons_succ]); (try simp only [List.getElem_cons_zero])
    go_simp; done
  rotate_left
  · (try simp only [List.getElem_toArray]); (try simp only [List.getElem_cons_succ]); (try simp only [List.getElem_cons_zero])
    first
      | (obtain ⟨f0, f1, f2, f3, f4, f5, f6, f7⟩ := h0 rfl; clear h0; go_simp; with_reducible rfl)
      | (clear h0; go_simp; with_reducible rfl)
  (try simp only [List.getElem_toArray]); (try simp only [List.getElem_cons_succ]); (try simp only [List.getElem_cons_zero])
  go_simp; refine hK _ ?_; clear hK K
  refine an_rd (i := 2) (by kernel_rfl) rfl ?_ (fun _ => hS) ?_ (fun w0 h0 => ?_) (fun K hK => ?_)
  · (try simp only [List.getElem_toArray]); (try simp only [List.getElem_cons_succ]); (try simp only [List.getElem_cons_zero])
    go_simp; done
  rotate_left
  · (try simp only [List.getElem_toArray]); (try simp only [List.getElem_cons_succ]); (try simp only [List.getElem_cons_zero])
    first
      | (obtain ⟨f0, f1, f2, f3, f4, f5, f6, f7⟩ := h0 rfl; clear h0; go_simp; with_reducible rfl)
      | (clear h0; go_simp; with_reducible rfl)
  (try simp only [List.getElem_toArray]); (try simp only [List.getElem_cons_succ]); (try simp only [List.getElem_cons_zero])
  go_simp; refine hK _ ?_; clear hK K
  refine an_rd (i := 3) (by kernel_rfl) rfl ?_ (fun _ => hS) ?_ (fun w0 h0 => ?_) (fun K hK => ?_)
  · (try simp only [List.getElem_toArray]); (try simp only [List.getElem_cons_succ]); (try simp only [List.getElem_cons_zero])
    go_simp; done
  rotate_left
  · (try simp only [List.getElem_toArray]); (try simp only [List.getElem_cons_succ]); (try simp only [List.getElem_cons_zero])
    first
      | (obtain ⟨f0, f1, f2, f3, f4, f5, f6, f7⟩ := h0 rfl; clear h0; go_simp; with_reducible rfl)
      | (clear h0; go_simp; with_reducible rfl)
  (try simp only [List.getElem_toArray]); (try simp only [List.getElem_cons_succ]); (try simp only [List.getElem_cons_zero])
  go_simp; refine hK _ ?_; clear hK K
  refine an_rd (i := 4) (by kernel_rfl) rfl ?_ (fun _ => hS) ?_ (fun w0 h0 => ?_) (fun K hK => ?_)
  · (try simp only [List.getElem_toArray]); (try simp only [List.getElem_cons_succ]); (try simp only [List.getElem_cons_zero])
    go_simp; done
  rotate_left
  · (try simp only [List.getElem_toArray]); (try simp only [List.getElem_cons_succ]); (try simp only [List.getElem_cons_zero])
    first
      | (obtain ⟨f0, f1, f2, f3, f4, f5, f6, f7⟩ := h0 rfl; clear h0; go_simp; with_reducible rfl)
      | (clear h0; go_simp; with_reducible rfl)
  (try simp only [List.getElem_toArray]); (try simp only [List.getElem_cons_succ]); (try simp only [List.getElem_cons_zero])
  go_simp; refine hK _ ?_; clear hK K
  refine an_rd (i := 7) (by kernel_rfl) rfl ?_ (fun _ => hS) ?_ (fun w0 h0 => ?_) (fun K hK => ?_)
  · (try simp only [List.getElem_toArray]); (try simp only [List.getElem_cons_succ]); (try simp only [List.getElem_cons_zero])
    go_simp; done
  rotate_left
  · (try simp only [List.getElem_toArray]); (try simp only [List.getElem_cons_succ]); (try simp only [List.getElem_cons_zero])
    first
      | (obtain ⟨f0, f1, f2, f3, f4, f5, f6, f7⟩ := h0 rfl; clear h0; go_simp; with_reducible rfl)
      | (clear h0; go_simp; with_reducible rfl)
  (try simp only [List.getElem_toArray]); (try simp only [List.getElem_cons_succ]); (try simp only [List.getElem_cons_zero])
  go_simp; refine hK _ ?_; clear hK K
  refine an_rd (i := 8) (by kernel_rfl) rfl ?_ (fun _ => hS) ?_ (fun w0 h0 => ?_) (fun K hK => ?_)
  · (try simp only [List.getElem_toArray]); (try simp only [List.getElem_cons_succ]); (try simp only [List.getElem_cons_zero])
    go_simp; done
  rotate_left
  · (try simp only [List.getElem_toArray]); (try simp only [List.getElem_cons_succ]); (try simp only [List.getElem_cons_zero])
    first
      | (obtain ⟨f0, f1, f2, f3, f4, f5, f6, f7⟩ := h0 rfl; clear h0; go_simp; with_reducible rfl)
      | (clear h0; go_simp; with_reducible rfl)
  (try simp only [List.getElem_toArray]); (try simp only [List.getElem_cons_succ]); (try simp only [List.getElem_cons_zero])
  go_simp; refine hK _ ?_; clear hK K
  refine an_rd (i := 10) (by kernel_rfl) rfl ?_ (fun _ => hS) ?_ (fun w0 h0 => ?_) (fun K hK => ?_)
  · (try simp only [List.getElem_toArray]); (try simp only [List.getElem_cons_succ]); (try simp only [List.getElem_cons_zero])
    go_simp; done
  rotate_left
  · (try simp only [List.getElem_toArray]); (try simp only [List.getElem_cons_succ]); (try simp only [List.getElem_cons_zero])
    first
      | (obtain ⟨f0, f1, f2, f3, f4, f5, f6, f7⟩ := h0 rfl; clear h0; go_simp; with_reducible rfl)
      | (clear h0; go_simp; with_reducible rfl)
  (try simp only [List.getElem_toArray]); (try simp only [List.getElem_cons_succ]); (try simp only [List.getElem_cons_zero])
  go_simp; refine hK _ ?_; clear hK K
  refine an_rd (i := 11) (by kernel_rfl) rfl ?_ (fun _ => hS) ?_ (fun w0 h0 => ?_) (fun K hK => ?_)
  · (try simp only [List.getElem_toArray]); (try simp only [List.getElem_cons_succ]); (try simp only [List.getElem_cons_zero])
    go_simp; done
  rotate_left
  · (try simp only [List.getElem_toArray]); (try simp only [List.getElem_cons_succ]); (try simp only [List.getElem_cons_zero])
    first
      | (obtain ⟨f0, f1, f2, f3, f4, f5, f6, f7⟩ := h0 rfl; clear h0; go_simp; with_reducible rfl)
      | (clear h0; go_simp; with_reducible rfl)
  (try simp only [List.getElem_toArray]); (try simp only [List.getElem_cons_succ]); (try simp only [List.getElem_cons_zero])
  go_simp; refine hK _ ?_; clear hK K
  refine an_rd (i := 14) (by kernel_rfl) rfl ?_ (fun _ => hS) ?_ (fun w0 h0 => ?_) (fun K hK => ?_)
  · (try simp only [List.getElem_toArray]); (try simp only [List.getElem_cons_succ]); (try simp only [List.getElem_cons_zero])
    go_simp; done
  rotate_left
  · (try simp only [List.getElem_toArray]); (try simp only [List.getElem_cons_succ]); (try simp only [List.getElem_cons_zero])
    first
      | (obtain ⟨f0, f1, f2, f3, f4, f5, f6, f7⟩ := h0 rfl; clear h0; go_simp; with_reducible rfl)
      | (clear h0; go_simp; with_reducible rfl)
  (try simp only [List.getElem_toArray]); (try simp only [List.getElem_cons_succ]); (try simp only [List.getElem_cons_zero])
  go_simp; refine hK _ ?_; clear hK K
  refine an_rd (i := 15) (by kernel_rfl) rfl ?_ (fun _ => hS) ?_ (fun w0 h0 => ?_) (fun K hK => ?_)
  · (try simp only [List.getElem_toArray]); (try simp only [List.getElem_cons_succ]); (try simp only [List.getElem_cons_zero])
    go_simp; done
  rotate_left
  · (try simp only [List.getElem_toArray]); (try simp only [List.getElem_cons_succ]); (try simp only [List.getElem_cons_zero])
    first
      | (obtain ⟨f0, f1, f2, f3, f4, f5, f6, f7⟩ := h0 rfl; clear h0; go_simp; with_reducible rfl)
      | (clear h0; go_simp; with_reducible rfl)
  (try simp only [List.getElem_toArray]); (try simp only [List.getElem_cons_succ]); (try simp only [List.getElem_cons_zero])
  go_simp; refine hK _ ?_; clear hK K
  refine an_rd (i := 17) (by kernel_rfl) rfl ?_ (fun _ => hS) ?_ (fun w0 h0 => ?_) (fun K hK => ?_)
  · (try simp only [List.getElem_toArray]); (try simp only [List.getElem_cons_succ]); (try simp only [List.getElem_cons_zero])
    go_simp; done
  rotate_left
  · (try simp only [List.getElem_toArray]); (try simp only [List.getElem_cons_succ]); (try simp only [List.getElem_cons_zero])
    first
      | (obtain ⟨f0, f1, f2, f3, f4, f5, f6, f7⟩ := h0 rfl; clear h0; go_simp; with_reducible rfl)
      | (clear h0; go_simp; with_reducible rfl)
  (try simp only [List.getElem_toArray]); (try simp only [List.getElem_cons_succ]); (try simp only [List.getElem_cons_zero])
  go_simp; refine hK _ ?_; clear hK K
  refine an_rd (i := 18) (by kernel_rfl) rfl ?_ (fun _ => hS) ?_ (fun w0 h0 => ?_) (fun K hK => ?_)
  · (try simp only [List.getElem_toArray]); (try simp only [List.getElem_cons_succ]); (try simp only [List.getElem_cons_zero])
    go_simp; done
  rotate_left
  · (try simp only [List.getElem_toArray]); (try simp only [List.getElem_cons_succ]); (try simp only [List.getElem_cons_zero])
    first
      | (obtain ⟨f0, f1, f2, f3, f4, f5, f6, f7⟩ := h0 rfl; clear h0; go_simp; with_reducible rfl)
      | (clear h0; go_simp; with_reducible rfl)
  (try simp only [List.getElem_toArray]); (try simp only [List.getElem_cons_succ]); (try simp only [List.getElem_cons_zero])
  go_simp; refine hK _ ?_; clear hK K
  refine an_rd (i := 20) (by kernel_rfl) rfl ?_ (fun _ => hS) ?_ (fun w0 h0 => ?_) (fun K hK => ?_)
  · (try simp only [List.getElem_toArray]); (try simp only [List.getElem_cons_succ]); (try simp only [List.getElem_cons_zero])
    go_simp; done
  rotate_left
  · (try simp only [List.getElem_toArray]); (try simp only [List.getElem_cons_succ]); (try simp only [List.getElem_cons_zero])
    first
      | (obtain ⟨f0, f1, f2, f3, f4, f5, f6, f7⟩ := h0 rfl; clear h0; go_simp; with_reducible rfl)
      | (clear h0; go_simp; with_reducible rfl)
  (try simp only [List.getElem_toArray]); (try simp only [List.getElem_cons_succ]); (try simp only [List.getElem_cons_zero])
  go_simp; refine hK _ ?_; clear hK K
  refine an_rd (i := 21) (by kernel_rfl) rfl ?_ (fun _ => hS) ?_ (fun w0 h0 => ?_) (fun K hK => ?_)
  · (try simp only [List.getElem_toArray]); (try simp only [List.getElem_cons_succ]); (try simp only [List.getElem_cons_zero])
    go_simp; done
  rotate_left
  · (try simp only [List.getElem_toArray]); (try simp only [List.getElem_cons_succ]); (try simp only [List.getElem_cons_zero])
    first
      | (obtain ⟨f0, f1, f2, f3, f4, f5, f6, f7⟩ := h0 rfl; clear h0; go_simp; with_reducible rfl)
      | (clear h0; go_simp; with_reducible rfl)
  (try simp only [List.getElem_toArray]); (try simp only [List.getElem_cons_succ]); (try simp only [List.getElem_cons_zero])
  go_simp; refine hK _ ?_; clear hK K
  refine an_inv (PutI wb p w.heap.size v0 bs r a cap) (fun listed A y hI => ?_) (fun n listed A y hI => ?_) (n := 9) ⟨0, none, none, none, v0, by omega, rfl, by omega, by omega, by omega, rfl, rfl, Hst0.out⟩
  · obtain ⟨c, x5, x12, x22, v, hc, hn, h1, h3, h6, rfl, rfl, hst⟩ := hI
    obtain ⟨g5, rfl⟩ : ∃ g, x5 = some g := by cases x5 with | none => simp [cnt] at hn; split at hn <;> split at hn <;> omega | some g => exact ⟨g, rfl⟩
    obtain ⟨g12, rfl⟩ : ∃ g, x12 = some g := by cases x12 with | none => simp [cnt] at hn; split at hn <;> omega | some g => exact ⟨g, rfl⟩
    obtain ⟨g22, rfl⟩ : ∃ g, x22 = some g := by cases x22 with | none => simp [cnt] at hn; omega | some g => exact ⟨g, rfl⟩
    obtain rfl : c = 6 := by simp [cnt] at hn; omega
    refine ⟨by kernel_rfl, ?_⟩
    have hfin : Wtr y p v (bs ++ ruBytes r) := hst.wtr
    have hwf := Wrote.after HmB.out hst.wrote
    clear hst
    have Hfin := Lib.hid hfin
    have Hwf := Lib.hid hwf
    clear hfin hwf
    simp only [putR, px, pc]
    go_wp2_with fail
    exact ⟨rfl, .tuple #[], by simp [results, Tryz.results104], rfl, v, Hfin.out, Hwf.out⟩
  · obtain ⟨c, x5, x12, x22, v, hc, hn, h1, h3, h6, rfl, rfl, hst⟩ := hI
    have hHlen := Hlen.out c
    have hcc : c = 0 ∨ c = 1 ∨ c = 2 ∨ c = 3 ∨ c = 4 ∨ c = 5 ∨ c = 6 := by omega
    rcases hcc with rfl | rfl | rfl | rfl | rfl | rfl | rfl <;> rcases x5 with _ | g5 <;> rcases x12 with _ | g12 <;> rcases x22 with _ | g22
    · refine ⟨[5, 12, 22], by kernel_rfl, by decide, List.forall_mem_cons.2 ⟨?_, List.forall_mem_cons.2 ⟨?_, List.forall_mem_cons.2 ⟨?_, fun _ h => by cases h⟩⟩⟩⟩
      · refine go_yes rfl ?_ (fun K hK => ?_)
        · (try simp only [List.getElem_toArray]); (try simp only [List.getElem_cons_succ]); (try simp only [List.getElem_cons_zero])
          go_simp; done
        (try simp only [List.getElem_toArray]); (try simp only [List.getElem_cons_succ]); (try simp only [List.getElem_cons_zero])
        simp only [putR, px, pc]
        go_simp
        refine hK _ _ (fun _ h => h.mod ((Mod.refl (fun _ => False) y).alloc _) (fun h => h)) ⟨0, (some y.heap.size), none, none, v, by omega, by simp [cnt] at hn ⊢; omega, fun _ => rfl, by decide, by decide, rfl, rfl, hst.b5 _⟩
      · refine go_yes rfl ?_ (fun K hK => ?_)
        · (try simp only [List.getElem_toArray]); (try simp only [List.getElem_cons_succ]); (try simp only [List.getElem_cons_zero])
          go_simp; done
        (try simp only [List.getElem_toArray]); (try simp only [List.getElem_cons_succ]); (try simp only [List.getElem_cons_zero])
        simp only [putR, px, pc]
        go_simp
        refine hK _ _ (fun _ h => h.mod ((Mod.refl (fun _ => False) y).alloc _) (fun h => h)) ⟨0, none, (some y.heap.size), none, v, by omega, by simp [cnt] at hn ⊢; omega, by decide, fun _ => rfl, by decide, rfl, rfl, hst.b12 _⟩
      · refine go_yes rfl ?_ (fun K hK => ?_)
        · (try simp only [List.getElem_toArray]); (try simp only [List.getElem_cons_succ]); (try simp only [List.getElem_cons_zero])
          go_simp; done
        (try simp only [List.getElem_toArray]); (try simp only [List.getElem_cons_succ]); (try simp only [List.getElem_cons_zero])
        simp only [putR, px, pc]
        go_simp
        refine hK _ _ (fun _ h => h.mod ((Mod.refl (fun _ => False) y).alloc _) (fun h => h)) ⟨0, none, none, (some y.heap.size), v, by omega, by simp [cnt] at hn ⊢; omega, by decide, by decide, fun _ => rfl, rfl, rfl, hst.b22 _⟩
    · refine ⟨[5, 12], by kernel_rfl, by decide, List.forall_mem_cons.2 ⟨?_, List.forall_mem_cons.2 ⟨?_, fun _ h => by cases h⟩⟩⟩
      · refine go_yes rfl ?_ (fun K hK => ?_)
        · (try simp only [List.getElem_toArray]); (try simp only [List.getElem_cons_succ]); (try simp only [List.getElem_cons_zero])
          go_simp; done
        (try simp only [List.getElem_toArray]); (try simp only [List.getElem_cons_succ]); (try simp only [List.getElem_cons_zero])
        simp only [putR, px, pc]
        go_simp
        refine hK _ _ (fun _ h => h.mod ((Mod.refl (fun _ => False) y).alloc _) (fun h => h)) ⟨0, (some y.heap.size), none, (some g22), v, by omega, by simp [cnt] at hn ⊢; omega, fun _ => rfl, by decide, fun _ => rfl, rfl, rfl, hst.b5 _⟩
      · refine go_yes rfl ?_ (fun K hK => ?_)
        · (try simp only [List.getElem_toArray]); (try simp only [List.getElem_cons_succ]); (try simp only [List.getElem_cons_zero])
          go_simp; done
        (try simp only [List.getElem_toArray]); (try simp only [List.getElem_cons_succ]); (try simp only [List.getElem_cons_zero])
        simp only [putR, px, pc]
        go_simp
        refine hK _ _ (fun _ h => h.mod ((Mod.refl (fun _ => False) y).alloc _) (fun h => h)) ⟨0, none, (some y.heap.size), (some g22), v, by omega, by simp [cnt] at hn ⊢; omega, by decide, fun _ => rfl, fun _ => rfl, rfl, rfl, hst.b12 _⟩
    · refine ⟨[5, 22], by kernel_rfl, by decide, List.forall_mem_cons.2 ⟨?_, List.forall_mem_cons.2 ⟨?_, fun _ h => by cases h⟩⟩⟩
      · refine go_yes rfl ?_ (fun K hK => ?_)
        · (try simp only [List.getElem_toArray]); (try simp only [List.getElem_cons_succ]); (try simp only [List.getElem_cons_zero])
          go_simp; done
        (try simp only [List.getElem_toArray]); (try simp only [List.getElem_cons_succ]); (try simp only [List.getElem_cons_zero])
        simp only [putR, px, pc]
        go_simp
        refine hK _ _ (fun _ h => h.mod ((Mod.refl (fun _ => False) y).alloc _) (fun h => h)) ⟨0, (some y.heap.size), (some g12), none, v, by omega, by simp [cnt] at hn ⊢; omega, fun _ => rfl, fun _ => rfl, by decide, rfl, rfl, hst.b5 _⟩
      · refine go_yes rfl ?_ (fun K hK => ?_)
        · (try simp only [List.getElem_toArray]); (try simp only [List.getElem_cons_succ]); (try simp only [List.getElem_cons_zero])
          go_simp; done
        (try simp only [List.getElem_toArray]); (try simp only [List.getElem_cons_succ]); (try simp only [List.getElem_cons_zero])
        simp only [putR, px, pc]
        go_simp
        refine hK _ _ (fun _ h => h.mod ((Mod.refl (fun _ => False) y).alloc _) (fun h => h)) ⟨0, none, (some g12), (some y.heap.size), v, by omega, by simp [cnt] at hn ⊢; omega, by decide, fun _ => rfl, fun _ => rfl, rfl, rfl, hst.b22 _⟩
    · refine ⟨[5], by kernel_rfl, by decide, List.forall_mem_cons.2 ⟨?_, fun _ h => by cases h⟩⟩
      · refine go_yes rfl ?_ (fun K hK => ?_)
        · (try simp only [List.getElem_toArray]); (try simp only [List.getElem_cons_succ]); (try simp only [List.getElem_cons_zero])
          go_simp; done
        (try simp only [List.getElem_toArray]); (try simp only [List.getElem_cons_succ]); (try simp only [List.getElem_cons_zero])
        simp only [putR, px, pc]
        go_simp
        refine hK _ _ (fun _ h => h.mod ((Mod.refl (fun _ => False) y).alloc _) (fun h => h)) ⟨0, (some y.heap.size), (some g12), (some g22), v, by omega, by simp [cnt] at hn ⊢; omega, fun _ => rfl, fun _ => rfl, fun _ => rfl, rfl, rfl, hst.b5 _⟩
    · refine ⟨[6, 12, 22], by kernel_rfl, by decide, List.forall_mem_cons.2 ⟨?_, List.forall_mem_cons.2 ⟨?_, List.forall_mem_cons.2 ⟨?_, fun _ h => by cases h⟩⟩⟩⟩
      · refine go_yes rfl ?_ (fun K hK => ?_)
        · (try simp only [List.getElem_toArray]); (try simp only [List.getElem_cons_succ]); (try simp only [List.getElem_cons_zero])
          go_simp; done
        (try simp only [List.getElem_toArray]); (try simp only [List.getElem_cons_succ]); (try simp only [List.getElem_cons_zero])
        simp only [putR, px, pc]
        have Hst := Lib.hid hst
        have Hcon := Lib.hid (wr_byten y p v _ hst.wtr (by omega) [r.kind, r.tenant] (by simp) g5 (hst.a5 g5 rfl).at_ (hst.a5 g5 rfl).ne (hst.a5 g5 rfl).nb)
        clear hst
        go_wp2_with fail
        refine Hcon.out.mono ?_
        rintro e w' ⟨rfl, v', hw', hwr'⟩
        have hst := Hst.out
        refine hK _ _ (fun _ h => h.mod hwr'.mod (HnB.out _ _ _ _ _ _ hst)) ⟨1, (some g5), none, none, v', by omega, by simp [cnt] at hn ⊢; omega, fun _ => rfl, by decide, by decide, rfl, rfl, hst.call hw' hwr' (by simp [putPre])⟩
      · refine go_yes rfl ?_ (fun K hK => ?_)
        · (try simp only [List.getElem_toArray]); (try simp only [List.getElem_cons_succ]); (try simp only [List.getElem_cons_zero])
          go_simp; done
        (try simp only [List.getElem_toArray]); (try simp only [List.getElem_cons_succ]); (try simp only [List.getElem_cons_zero])
        simp only [putR, px, pc]
        go_simp
        refine hK _ _ (fun _ h => h.mod ((Mod.refl (fun _ => False) y).alloc _) (fun h => h)) ⟨0, (some g5), (some y.heap.size), none, v, by omega, by simp [cnt] at hn ⊢; omega, fun _ => rfl, fun _ => rfl, by decide, rfl, rfl, hst.b12 _⟩
      · refine go_yes rfl ?_ (fun K hK => ?_)
        · (try simp only [List.getElem_toArray]); (try simp only [List.getElem_cons_succ]); (try simp only [List.getElem_cons_zero])
          go_simp; done
        (try simp only [List.getElem_toArray]); (try simp only [List.getElem_cons_succ]); (try simp only [List.getElem_cons_zero])
        simp only [putR, px, pc]
        go_simp
        refine hK _ _ (fun _ h => h.mod ((Mod.refl (fun _ => False) y).alloc _) (fun h => h)) ⟨0, (some g5), none, (some y.heap.size), v, by omega, by simp [cnt] at hn ⊢; omega, fun _ => rfl, by decide, fun _ => rfl, rfl, rfl, hst.b22 _⟩
    · refine ⟨[6, 12], by kernel_rfl, by decide, List.forall_mem_cons.2 ⟨?_, List.forall_mem_cons.2 ⟨?_, fun _ h => by cases h⟩⟩⟩
      · refine go_yes rfl ?_ (fun K hK => ?_)
        · (try simp only [List.getElem_toArray]); (try simp only [List.getElem_cons_succ]); (try simp only [List.getElem_cons_zero])
          go_simp; done
        (try simp only [List.getElem_toArray]); (try simp only [List.getElem_cons_succ]); (try simp only [List.getElem_cons_zero])
        simp only [putR, px, pc]
        have Hst := Lib.hid hst
        have Hcon := Lib.hid (wr_byten y p v _ hst.wtr (by omega) [r.kind, r.tenant] (by simp) g5 (hst.a5 g5 rfl).at_ (hst.a5 g5 rfl).ne (hst.a5 g5 rfl).nb)
        clear hst
        go_wp2_with fail
        refine Hcon.out.mono ?_
        rintro e w' ⟨rfl, v', hw', hwr'⟩
        have hst := Hst.out
        refine hK _ _ (fun _ h => h.mod hwr'.mod (HnB.out _ _ _ _ _ _ hst)) ⟨1, (some g5), none, (some g22), v', by omega, by simp [cnt] at hn ⊢; omega, fun _ => rfl, by decide, fun _ => rfl, rfl, rfl, hst.call hw' hwr' (by simp [putPre])⟩
      · refine go_yes rfl ?_ (fun K hK => ?_)
        · (try simp only [List.getElem_toArray]); (try simp only [List.getElem_cons_succ]); (try simp only [List.getElem_cons_zero])
          go_simp; done
        (try simp only [List.getElem_toArray]); (try simp only [List.getElem_cons_succ]); (try simp only [List.getElem_cons_zero])
        simp only [putR, px, pc]
        go_simp
        refine hK _ _ (fun _ h => h.mod ((Mod.refl (fun _ => False) y).alloc _) (fun h => h)) ⟨0, (some g5), (some y.heap.size), (some g22), v, by omega, by simp [cnt] at hn ⊢; omega, fun _ => rfl, fun _ => rfl, fun _ => rfl, rfl, rfl, hst.b12 _⟩
    · refine ⟨[6, 22], by kernel_rfl, by decide, List.forall_mem_cons.2 ⟨?_, List.forall_mem_cons.2 ⟨?_, fun _ h => by cases h⟩⟩⟩
      · refine go_yes rfl ?_ (fun K hK => ?_)
        · (try simp only [List.getElem_toArray]); (try simp only [List.getElem_cons_succ]); (try simp only [List.getElem_cons_zero])
          go_simp; done
        (try simp only [List.getElem_toArray]); (try simp only [List.getElem_cons_succ]); (try simp only [List.getElem_cons_zero])
        simp only [putR, px, pc]
        have Hst := Lib.hid hst
        have Hcon := Lib.hid (wr_byten y p v _ hst.wtr (by omega) [r.kind, r.tenant] (by simp) g5 (hst.a5 g5 rfl).at_ (hst.a5 g5 rfl).ne (hst.a5 g5 rfl).nb)
        clear hst
        go_wp2_with fail
        refine Hcon.out.mono ?_
        rintro e w' ⟨rfl, v', hw', hwr'⟩
        have hst := Hst.out
        refine hK _ _ (fun _ h => h.mod hwr'.mod (HnB.out _ _ _ _ _ _ hst)) ⟨1, (some g5), (some g12), none, v', by omega, by simp [cnt] at hn ⊢; omega, fun _ => rfl, fun _ => rfl, by decide, rfl, rfl, hst.call hw' hwr' (by simp [putPre])⟩
      · refine go_yes rfl ?_ (fun K hK => ?_)
        · (try simp only [List.getElem_toArray]); (try simp only [List.getElem_cons_succ]); (try simp only [List.getElem_cons_zero])
          go_simp; done
        (try simp only [List.getElem_toArray]); (try simp only [List.getElem_cons_succ]); (try simp only [List.getElem_cons_zero])
        simp only [putR, px, pc]
        go_simp
        refine hK _ _ (fun _ h => h.mod ((Mod.refl (fun _ => False) y).alloc _) (fun h => h)) ⟨0, (some g5), (some g12), (some y.heap.size), v, by omega, by simp [cnt] at hn ⊢; omega, fun _ => rfl, fun _ => rfl, fun _ => rfl, rfl, rfl, hst.b22 _⟩
    · refine ⟨[6], by kernel_rfl, by decide, List.forall_mem_cons.2 ⟨?_, fun _ h => by cases h⟩⟩
      · refine go_yes rfl ?_ (fun K hK => ?_)
        · (try simp only [List.getElem_toArray]); (try simp only [List.getElem_cons_succ]); (try simp only [List.getElem_cons_zero])
          go_simp; done
        (try simp only [List.getElem_toArray]); (try simp only [List.getElem_cons_succ]); (try simp only [List.getElem_cons_zero])
        simp only [putR, px, pc]
        have Hst := Lib.hid hst
        have Hcon := Lib.hid (wr_byten y p v _ hst.wtr (by omega) [r.kind, r.tenant] (by simp) g5 (hst.a5 g5 rfl).at_ (hst.a5 g5 rfl).ne (hst.a5 g5 rfl).nb)
        clear hst
        go_wp2_with fail
        refine Hcon.out.mono ?_
        rintro e w' ⟨rfl, v', hw', hwr'⟩
        have hst := Hst.out
        refine hK _ _ (fun _ h => h.mod hwr'.mod (HnB.out _ _ _ _ _ _ hst)) ⟨1, (some g5), (some g12), (some g22), v', by omega, by simp [cnt] at hn ⊢; omega, fun _ => rfl, fun _ => rfl, fun _ => rfl, rfl, rfl, hst.call hw' hwr' (by simp [putPre])⟩
    · exact absurd (h1 (by decide)) (by decide)
    · exact absurd (h1 (by decide)) (by decide)
    · exact absurd (h1 (by decide)) (by decide)
    · exact absurd (h1 (by decide)) (by decide)
    · refine ⟨[9, 12, 22], by kernel_rfl, by decide, List.forall_mem_cons.2 ⟨?_, List.forall_mem_cons.2 ⟨?_, List.forall_mem_cons.2 ⟨?_, fun _ h => by cases h⟩⟩⟩⟩
      · refine go_yes rfl ?_ (fun K hK => ?_)
        · (try simp only [List.getElem_toArray]); (try simp only [List.getElem_cons_succ]); (try simp only [List.getElem_cons_zero])
          go_simp; done
        (try simp only [List.getElem_toArray]); (try simp only [List.getElem_cons_succ]); (try simp only [List.getElem_cons_zero])
        simp only [putR, px, pc]
        have Hst := Lib.hid hst
        have Hcon := Lib.hid (wr_text y p v _ hst.wtr (by omega) r.who (by have := Hf.out.who; omega))
        clear hst
        go_wp2_with fail
        refine Hcon.out.mono ?_
        rintro e w' ⟨rfl, v', hw', hwr'⟩
        have hst := Hst.out
        refine hK _ _ (fun _ h => h.mod hwr'.mod (HnB.out _ _ _ _ _ _ hst)) ⟨2, (some g5), none, none, v', by omega, by simp [cnt] at hn ⊢; omega, fun _ => rfl, by decide, by decide, rfl, rfl, hst.call hw' hwr' (by simp [putPre, txtBytes])⟩
      · refine go_yes rfl ?_ (fun K hK => ?_)
        · (try simp only [List.getElem_toArray]); (try simp only [List.getElem_cons_succ]); (try simp only [List.getElem_cons_zero])
          go_simp; done
        (try simp only [List.getElem_toArray]); (try simp only [List.getElem_cons_succ]); (try simp only [List.getElem_cons_zero])
        simp only [putR, px, pc]
        go_simp
        refine hK _ _ (fun _ h => h.mod ((Mod.refl (fun _ => False) y).alloc _) (fun h => h)) ⟨1, (some g5), (some y.heap.size), none, v, by omega, by simp [cnt] at hn ⊢; omega, fun _ => rfl, fun _ => rfl, by decide, rfl, rfl, hst.b12 _⟩
      · refine go_yes rfl ?_ (fun K hK => ?_)
        · (try simp only [List.getElem_toArray]); (try simp only [List.getElem_cons_succ]); (try simp only [List.getElem_cons_zero])
          go_simp; done
        (try simp only [List.getElem_toArray]); (try simp only [List.getElem_cons_succ]); (try simp only [List.getElem_cons_zero])
        simp only [putR, px, pc]
        go_simp
        refine hK _ _ (fun _ h => h.mod ((Mod.refl (fun _ => False) y).alloc _) (fun h => h)) ⟨1, (some g5), none, (some y.heap.size), v, by omega, by simp [cnt] at hn ⊢; omega, fun _ => rfl, by decide, fun _ => rfl, rfl, rfl, hst.b22 _⟩
    · refine ⟨[9, 12], by kernel_rfl, by decide, List.forall_mem_cons.2 ⟨?_, List.forall_mem_cons.2 ⟨?_, fun _ h => by cases h⟩⟩⟩
      · refine go_yes rfl ?_ (fun K hK => ?_)
        · (try simp only [List.getElem_toArray]); (try simp only [List.getElem_cons_succ]); (try simp only [List.getElem_cons_zero])
          go_simp; done
        (try simp only [List.getElem_toArray]); (try simp only [List.getElem_cons_succ]); (try simp only [List.getElem_cons_zero])
        simp only [putR, px, pc]
        have Hst := Lib.hid hst
        have Hcon := Lib.hid (wr_text y p v _ hst.wtr (by omega) r.who (by have := Hf.out.who; omega))
        clear hst
        go_wp2_with fail
        refine Hcon.out.mono ?_
        rintro e w' ⟨rfl, v', hw', hwr'⟩
        have hst := Hst.out
        refine hK _ _ (fun _ h => h.mod hwr'.mod (HnB.out _ _ _ _ _ _ hst)) ⟨2, (some g5), none, (some g22), v', by omega, by simp [cnt] at hn ⊢; omega, fun _ => rfl, by decide, fun _ => rfl, rfl, rfl, hst.call hw' hwr' (by simp [putPre, txtBytes])⟩
      · refine go_yes rfl ?_ (fun K hK => ?_)
        · (try simp only [List.getElem_toArray]); (try simp only [List.getElem_cons_succ]); (try simp only [List.getElem_cons_zero])
          go_simp; done
        (try simp only [List.getElem_toArray]); (try simp only [List.getElem_cons_succ]); (try simp only [List.getElem_cons_zero])
        simp only [putR, px, pc]
        go_simp
        refine hK _ _ (fun _ h => h.mod ((Mod.refl (fun _ => False) y).alloc _) (fun h => h)) ⟨1, (some g5), (some y.heap.size), (some g22), v, by omega, by simp [cnt] at hn ⊢; omega, fun _ => rfl, fun _ => rfl, fun _ => rfl, rfl, rfl, hst.b12 _⟩
    · refine ⟨[9, 22], by kernel_rfl, by decide, List.forall_mem_cons.2 ⟨?_, List.forall_mem_cons.2 ⟨?_, fun _ h => by cases h⟩⟩⟩
      · refine go_yes rfl ?_ (fun K hK => ?_)
        · (try simp only [List.getElem_toArray]); (try simp only [List.getElem_cons_succ]); (try simp only [List.getElem_cons_zero])
          go_simp; done
        (try simp only [List.getElem_toArray]); (try simp only [List.getElem_cons_succ]); (try simp only [List.getElem_cons_zero])
        simp only [putR, px, pc]
        have Hst := Lib.hid hst
        have Hcon := Lib.hid (wr_text y p v _ hst.wtr (by omega) r.who (by have := Hf.out.who; omega))
        clear hst
        go_wp2_with fail
        refine Hcon.out.mono ?_
        rintro e w' ⟨rfl, v', hw', hwr'⟩
        have hst := Hst.out
        refine hK _ _ (fun _ h => h.mod hwr'.mod (HnB.out _ _ _ _ _ _ hst)) ⟨2, (some g5), (some g12), none, v', by omega, by simp [cnt] at hn ⊢; omega, fun _ => rfl, fun _ => rfl, by decide, rfl, rfl, hst.call hw' hwr' (by simp [putPre, txtBytes])⟩
      · refine go_yes rfl ?_ (fun K hK => ?_)
        · (try simp only [List.getElem_toArray]); (try simp only [List.getElem_cons_succ]); (try simp only [List.getElem_cons_zero])
          go_simp; done
        (try simp only [List.getElem_toArray]); (try simp only [List.getElem_cons_succ]); (try simp only [List.getElem_cons_zero])
        simp only [putR, px, pc]
        go_simp
        refine hK _ _ (fun _ h => h.mod ((Mod.refl (fun _ => False) y).alloc _) (fun h => h)) ⟨1, (some g5), (some g12), (some y.heap.size), v, by omega, by simp [cnt] at hn ⊢; omega, fun _ => rfl, fun _ => rfl, fun _ => rfl, rfl, rfl, hst.b22 _⟩
    · refine ⟨[9], by kernel_rfl, by decide, List.forall_mem_cons.2 ⟨?_, fun _ h => by cases h⟩⟩
      · refine go_yes rfl ?_ (fun K hK => ?_)
        · (try simp only [List.getElem_toArray]); (try simp only [List.getElem_cons_succ]); (try simp only [List.getElem_cons_zero])
          go_simp; done
        (try simp only [List.getElem_toArray]); (try simp only [List.getElem_cons_succ]); (try simp only [List.getElem_cons_zero])
        simp only [putR, px, pc]
        have Hst := Lib.hid hst
        have Hcon := Lib.hid (wr_text y p v _ hst.wtr (by omega) r.who (by have := Hf.out.who; omega))
        clear hst
        go_wp2_with fail
        refine Hcon.out.mono ?_
        rintro e w' ⟨rfl, v', hw', hwr'⟩
        have hst := Hst.out
        refine hK _ _ (fun _ h => h.mod hwr'.mod (HnB.out _ _ _ _ _ _ hst)) ⟨2, (some g5), (some g12), (some g22), v', by omega, by simp [cnt] at hn ⊢; omega, fun _ => rfl, fun _ => rfl, fun _ => rfl, rfl, rfl, hst.call hw' hwr' (by simp [putPre, txtBytes])⟩
    · exact absurd (h1 (by decide)) (by decide)
    · exact absurd (h1 (by decide)) (by decide)
    · exact absurd (h1 (by decide)) (by decide)
    · exact absurd (h1 (by decide)) (by decide)
    · refine ⟨[12, 22], by kernel_rfl, by decide, List.forall_mem_cons.2 ⟨?_, List.forall_mem_cons.2 ⟨?_, fun _ h => by cases h⟩⟩⟩
      · refine go_yes rfl ?_ (fun K hK => ?_)
        · (try simp only [List.getElem_toArray]); (try simp only [List.getElem_cons_succ]); (try simp only [List.getElem_cons_zero])
          go_simp; done
        (try simp only [List.getElem_toArray]); (try simp only [List.getElem_cons_succ]); (try simp only [List.getElem_cons_zero])
        simp only [putR, px, pc]
        go_simp
        refine hK _ _ (fun _ h => h.mod ((Mod.refl (fun _ => False) y).alloc _) (fun h => h)) ⟨2, (some g5), (some y.heap.size), none, v, by omega, by simp [cnt] at hn ⊢; omega, fun _ => rfl, fun _ => rfl, by decide, rfl, rfl, hst.b12 _⟩
      · refine go_yes rfl ?_ (fun K hK => ?_)
        · (try simp only [List.getElem_toArray]); (try simp only [List.getElem_cons_succ]); (try simp only [List.getElem_cons_zero])
          go_simp; done
        (try simp only [List.getElem_toArray]); (try simp only [List.getElem_cons_succ]); (try simp only [List.getElem_cons_zero])
        simp only [putR, px, pc]
        go_simp
        refine hK _ _ (fun _ h => h.mod ((Mod.refl (fun _ => False) y).alloc _) (fun h => h)) ⟨2, (some g5), none, (some y.heap.size), v, by omega, by simp [cnt] at hn ⊢; omega, fun _ => rfl, by decide, fun _ => rfl, rfl, rfl, hst.b22 _⟩
    · refine ⟨[12], by kernel_rfl, by decide, List.forall_mem_cons.2 ⟨?_, fun _ h => by cases h⟩⟩
      · refine go_yes rfl ?_ (fun K hK => ?_)
        · (try simp only [List.getElem_toArray]); (try simp only [List.getElem_cons_succ]); (try simp only [List.getElem_cons_zero])
          go_simp; done
        (try simp only [List.getElem_toArray]); (try simp only [List.getElem_cons_succ]); (try simp only [List.getElem_cons_zero])
        simp only [putR, px, pc]
        go_simp
        refine hK _ _ (fun _ h => h.mod ((Mod.refl (fun _ => False) y).alloc _) (fun h => h)) ⟨2, (some g5), (some y.heap.size), (some g22), v, by omega, by simp [cnt] at hn ⊢; omega, fun _ => rfl, fun _ => rfl, fun _ => rfl, rfl, rfl, hst.b12 _⟩
    · refine ⟨[13, 22], by kernel_rfl, by decide, List.forall_mem_cons.2 ⟨?_, List.forall_mem_cons.2 ⟨?_, fun _ h => by cases h⟩⟩⟩
      · refine go_yes rfl ?_ (fun K hK => ?_)
        · (try simp only [List.getElem_toArray]); (try simp only [List.getElem_cons_succ]); (try simp only [List.getElem_cons_zero])
          go_simp; done
        (try simp only [List.getElem_toArray]); (try simp only [List.getElem_cons_succ]); (try simp only [List.getElem_cons_zero])
        simp only [putR, px, pc]
        have Hst := Lib.hid hst
        have Hcon := Lib.hid (wr_byten y p v _ hst.wtr (by omega) [r.broker] (by simp) g12 (hst.a12 g12 rfl).at_ (hst.a12 g12 rfl).ne (hst.a12 g12 rfl).nb)
        clear hst
        go_wp2_with fail
        refine Hcon.out.mono ?_
        rintro e w' ⟨rfl, v', hw', hwr'⟩
        have hst := Hst.out
        refine hK _ _ (fun _ h => h.mod hwr'.mod (HnB.out _ _ _ _ _ _ hst)) ⟨3, (some g5), (some g12), none, v', by omega, by simp [cnt] at hn ⊢; omega, fun _ => rfl, fun _ => rfl, by decide, rfl, rfl, hst.call hw' hwr' (by simp [putPre])⟩
      · refine go_yes rfl ?_ (fun K hK => ?_)
        · (try simp only [List.getElem_toArray]); (try simp only [List.getElem_cons_succ]); (try simp only [List.getElem_cons_zero])
          go_simp; done
        (try simp only [List.getElem_toArray]); (try simp only [List.getElem_cons_succ]); (try simp only [List.getElem_cons_zero])
        simp only [putR, px, pc]
        go_simp
        refine hK _ _ (fun _ h => h.mod ((Mod.refl (fun _ => False) y).alloc _) (fun h => h)) ⟨2, (some g5), (some g12), (some y.heap.size), v, by omega, by simp [cnt] at hn ⊢; omega, fun _ => rfl, fun _ => rfl, fun _ => rfl, rfl, rfl, hst.b22 _⟩
    · refine ⟨[13], by kernel_rfl, by decide, List.forall_mem_cons.2 ⟨?_, fun _ h => by cases h⟩⟩
      · refine go_yes rfl ?_ (fun K hK => ?_)
        · (try simp only [List.getElem_toArray]); (try simp only [List.getElem_cons_succ]); (try simp only [List.getElem_cons_zero])
          go_simp; done
        (try simp only [List.getElem_toArray]); (try simp only [List.getElem_cons_succ]); (try simp only [List.getElem_cons_zero])
        simp only [putR, px, pc]
        have Hst := Lib.hid hst
        have Hcon := Lib.hid (wr_byten y p v _ hst.wtr (by omega) [r.broker] (by simp) g12 (hst.a12 g12 rfl).at_ (hst.a12 g12 rfl).ne (hst.a12 g12 rfl).nb)
        clear hst
        go_wp2_with fail
        refine Hcon.out.mono ?_
        rintro e w' ⟨rfl, v', hw', hwr'⟩
        have hst := Hst.out
        refine hK _ _ (fun _ h => h.mod hwr'.mod (HnB.out _ _ _ _ _ _ hst)) ⟨3, (some g5), (some g12), (some g22), v', by omega, by simp [cnt] at hn ⊢; omega, fun _ => rfl, fun _ => rfl, fun _ => rfl, rfl, rfl, hst.call hw' hwr' (by simp [putPre])⟩
    · exact absurd (h1 (by decide)) (by decide)
    · exact absurd (h1 (by decide)) (by decide)
    · exact absurd (h1 (by decide)) (by decide)
    · exact absurd (h1 (by decide)) (by decide)
    · exact absurd (h3 (by decide)) (by decide)
    · exact absurd (h3 (by decide)) (by decide)
    · refine ⟨[16, 22], by kernel_rfl, by decide, List.forall_mem_cons.2 ⟨?_, List.forall_mem_cons.2 ⟨?_, fun _ h => by cases h⟩⟩⟩
      · refine go_yes rfl ?_ (fun K hK => ?_)
        · (try simp only [List.getElem_toArray]); (try simp only [List.getElem_cons_succ]); (try simp only [List.getElem_cons_zero])
          go_simp; done
        (try simp only [List.getElem_toArray]); (try simp only [List.getElem_cons_succ]); (try simp only [List.getElem_cons_zero])
        simp only [putR, px, pc]
        have Hst := Lib.hid hst
        have Hcon := Lib.hid (wr_filter y p v _ hst.wtr (by omega) r.sc (by have := Hf.out.sc; omega) (.slice a r.cs.length cap) r.cs (Hrd.out _ _ _ _ _ _ hst).1 Hf.out.len Hf.out.cs (Hrd.out _ _ _ _ _ _ hst).2)
        clear hst
        go_wp2_with fail
        refine Hcon.out.mono ?_
        rintro e w' ⟨rfl, v', hw', hwr'⟩
        have hst := Hst.out
        refine hK _ _ (fun _ h => h.mod hwr'.mod (HnB.out _ _ _ _ _ _ hst)) ⟨4, (some g5), (some g12), none, v', by omega, by simp [cnt] at hn ⊢; omega, fun _ => rfl, fun _ => rfl, by decide, rfl, rfl, hst.call hw' hwr' (by simp [putPre])⟩
      · refine go_yes rfl ?_ (fun K hK => ?_)
        · (try simp only [List.getElem_toArray]); (try simp only [List.getElem_cons_succ]); (try simp only [List.getElem_cons_zero])
          go_simp; done
        (try simp only [List.getElem_toArray]); (try simp only [List.getElem_cons_succ]); (try simp only [List.getElem_cons_zero])
        simp only [putR, px, pc]
        go_simp
        refine hK _ _ (fun _ h => h.mod ((Mod.refl (fun _ => False) y).alloc _) (fun h => h)) ⟨3, (some g5), (some g12), (some y.heap.size), v, by omega, by simp [cnt] at hn ⊢; omega, fun _ => rfl, fun _ => rfl, fun _ => rfl, rfl, rfl, hst.b22 _⟩
    · refine ⟨[16], by kernel_rfl, by decide, List.forall_mem_cons.2 ⟨?_, fun _ h => by cases h⟩⟩
      · refine go_yes rfl ?_ (fun K hK => ?_)
        · (try simp only [List.getElem_toArray]); (try simp only [List.getElem_cons_succ]); (try simp only [List.getElem_cons_zero])
          go_simp; done
        (try simp only [List.getElem_toArray]); (try simp only [List.getElem_cons_succ]); (try simp only [List.getElem_cons_zero])
        simp only [putR, px, pc]
        have Hst := Lib.hid hst
        have Hcon := Lib.hid (wr_filter y p v _ hst.wtr (by omega) r.sc (by have := Hf.out.sc; omega) (.slice a r.cs.length cap) r.cs (Hrd.out _ _ _ _ _ _ hst).1 Hf.out.len Hf.out.cs (Hrd.out _ _ _ _ _ _ hst).2)
        clear hst
        go_wp2_with fail
        refine Hcon.out.mono ?_
        rintro e w' ⟨rfl, v', hw', hwr'⟩
        have hst := Hst.out
        refine hK _ _ (fun _ h => h.mod hwr'.mod (HnB.out _ _ _ _ _ _ hst)) ⟨4, (some g5), (some g12), (some g22), v', by omega, by simp [cnt] at hn ⊢; omega, fun _ => rfl, fun _ => rfl, fun _ => rfl, rfl, rfl, hst.call hw' hwr' (by simp [putPre])⟩
    · exact absurd (h1 (by decide)) (by decide)
    · exact absurd (h1 (by decide)) (by decide)
    · exact absurd (h1 (by decide)) (by decide)
    · exact absurd (h1 (by decide)) (by decide)
    · exact absurd (h3 (by decide)) (by decide)
    · exact absurd (h3 (by decide)) (by decide)
    · refine ⟨[19, 22], by kernel_rfl, by decide, List.forall_mem_cons.2 ⟨?_, List.forall_mem_cons.2 ⟨?_, fun _ h => by cases h⟩⟩⟩
      · refine go_yes rfl ?_ (fun K hK => ?_)
        · (try simp only [List.getElem_toArray]); (try simp only [List.getElem_cons_succ]); (try simp only [List.getElem_cons_zero])
          go_simp; done
        (try simp only [List.getElem_toArray]); (try simp only [List.getElem_cons_succ]); (try simp only [List.getElem_cons_zero])
        simp only [putR, px, pc]
        have Hst := Lib.hid hst
        have Hcon := Lib.hid (wr_text y p v _ hst.wtr (by omega) r.name (by have := Hf.out.name; omega))
        clear hst
        go_wp2_with fail
        refine Hcon.out.mono ?_
        rintro e w' ⟨rfl, v', hw', hwr'⟩
        have hst := Hst.out
        refine hK _ _ (fun _ h => h.mod hwr'.mod (HnB.out _ _ _ _ _ _ hst)) ⟨5, (some g5), (some g12), none, v', by omega, by simp [cnt] at hn ⊢; omega, fun _ => rfl, fun _ => rfl, by decide, rfl, rfl, hst.call hw' hwr' (by simp [putPre, txtBytes])⟩
      · refine go_yes rfl ?_ (fun K hK => ?_)
        · (try simp only [List.getElem_toArray]); (try simp only [List.getElem_cons_succ]); (try simp only [List.getElem_cons_zero])
          go_simp; done
        (try simp only [List.getElem_toArray]); (try simp only [List.getElem_cons_succ]); (try simp only [List.getElem_cons_zero])
        simp only [putR, px, pc]
        go_simp
        refine hK _ _ (fun _ h => h.mod ((Mod.refl (fun _ => False) y).alloc _) (fun h => h)) ⟨4, (some g5), (some g12), (some y.heap.size), v, by omega, by simp [cnt] at hn ⊢; omega, fun _ => rfl, fun _ => rfl, fun _ => rfl, rfl, rfl, hst.b22 _⟩
    · refine ⟨[19], by kernel_rfl, by decide, List.forall_mem_cons.2 ⟨?_, fun _ h => by cases h⟩⟩
      · refine go_yes rfl ?_ (fun K hK => ?_)
        · (try simp only [List.getElem_toArray]); (try simp only [List.getElem_cons_succ]); (try simp only [List.getElem_cons_zero])
          go_simp; done
        (try simp only [List.getElem_toArray]); (try simp only [List.getElem_cons_succ]); (try simp only [List.getElem_cons_zero])
        simp only [putR, px, pc]
        have Hst := Lib.hid hst
        have Hcon := Lib.hid (wr_text y p v _ hst.wtr (by omega) r.name (by have := Hf.out.name; omega))
        clear hst
        go_wp2_with fail
        refine Hcon.out.mono ?_
        rintro e w' ⟨rfl, v', hw', hwr'⟩
        have hst := Hst.out
        refine hK _ _ (fun _ h => h.mod hwr'.mod (HnB.out _ _ _ _ _ _ hst)) ⟨5, (some g5), (some g12), (some g22), v', by omega, by simp [cnt] at hn ⊢; omega, fun _ => rfl, fun _ => rfl, fun _ => rfl, rfl, rfl, hst.call hw' hwr' (by simp [putPre, txtBytes])⟩
    · exact absurd (h1 (by decide)) (by decide)
    · exact absurd (h1 (by decide)) (by decide)
    · exact absurd (h1 (by decide)) (by decide)
    · exact absurd (h1 (by decide)) (by decide)
    · exact absurd (h3 (by decide)) (by decide)
    · exact absurd (h3 (by decide)) (by decide)
    · refine ⟨[22], by kernel_rfl, by decide, List.forall_mem_cons.2 ⟨?_, fun _ h => by cases h⟩⟩
      · refine go_yes rfl ?_ (fun K hK => ?_)
        · (try simp only [List.getElem_toArray]); (try simp only [List.getElem_cons_succ]); (try simp only [List.getElem_cons_zero])
          go_simp; done
        (try simp only [List.getElem_toArray]); (try simp only [List.getElem_cons_succ]); (try simp only [List.getElem_cons_zero])
        simp only [putR, px, pc]
        go_simp
        refine hK _ _ (fun _ h => h.mod ((Mod.refl (fun _ => False) y).alloc _) (fun h => h)) ⟨5, (some g5), (some g12), (some y.heap.size), v, by omega, by simp [cnt] at hn ⊢; omega, fun _ => rfl, fun _ => rfl, fun _ => rfl, rfl, rfl, hst.b22 _⟩
    · refine ⟨[23], by kernel_rfl, by decide, List.forall_mem_cons.2 ⟨?_, fun _ h => by cases h⟩⟩
      · refine go_yes rfl ?_ (fun K hK => ?_)
        · (try simp only [List.getElem_toArray]); (try simp only [List.getElem_cons_succ]); (try simp only [List.getElem_cons_zero])
          go_simp; done
        (try simp only [List.getElem_toArray]); (try simp only [List.getElem_cons_succ]); (try simp only [List.getElem_cons_zero])
        simp only [putR, px, pc]
        have Hst := Lib.hid hst
        have Hcon := Lib.hid (wr_byten y p v _ hst.wtr (by omega) [r.at_] (by simp) g22 (hst.a22 g22 rfl).at_ (hst.a22 g22 rfl).ne (hst.a22 g22 rfl).nb)
        clear hst
        go_wp2_with fail
        refine Hcon.out.mono ?_
        rintro e w' ⟨rfl, v', hw', hwr'⟩
        have hst := Hst.out
        refine hK _ _ (fun _ h => h.mod hwr'.mod (HnB.out _ _ _ _ _ _ hst)) ⟨6, (some g5), (some g12), (some g22), v', by omega, by simp [cnt] at hn ⊢; omega, fun _ => rfl, fun _ => rfl, fun _ => rfl, rfl, rfl, hst.call hw' hwr' (by simp [putPre, ruBytes])⟩
    · exact absurd (h1 (by decide)) (by decide)
    · exact absurd (h1 (by decide)) (by decide)
    · exact absurd (h1 (by decide)) (by decide)
    · exact absurd (h1 (by decide)) (by decide)
    · exact absurd (h3 (by decide)) (by decide)
    · exact absurd (h3 (by decide)) (by decide)
    · exact absurd (h6 (by decide)) (by decide)
    · exact absurd hn (by simp [cnt])
end Go.Proofs.YtloplmaekonenaaGreatDoor
