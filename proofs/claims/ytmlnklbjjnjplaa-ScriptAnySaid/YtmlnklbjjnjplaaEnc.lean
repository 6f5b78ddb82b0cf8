/-
  script.Encode.
-/
import Derived.Test.YtmlnklbjjnjplaaOp
import Derived.Test.YtmlnklbjjnjplaaWby
namespace Go.Proofs.Ytmlnklbjjnjplaa
open Go.RowKit

theorem rd_op {w : World} {a : Option Addr} {cap : Nat} {l : List (PO × Lie)} {j : Nat} {x : PO × Lie} (h : RdSl w 18 (.slice a l.length cap) l.length (opsCells l)) (hx : l[j]? = some x) : ∃ g off, a = some ⟨g, off, none⟩ ∧ CellsAt w g (off + j * 18) (opCells x.1 x.2) := by
  obtain ⟨-, a', c', h1, -, h3, h4⟩ := h
  cases h1
  cases a with
  | none => have := (List.getElem?_eq_some_iff.1 hx).1; exact absurd (h3 rfl) (by omega)
  | some b =>
    obtain ⟨g', off', h5, h6⟩ := h4 _ rfl (by have := (List.getElem?_eq_some_iff.1 hx).1; omega)
    refine ⟨g', off', by rw [h5], fun i u hu => ?_⟩
    have := h6 (18 * j + i) u (opsCells_at _ hx hu)
    rw [show off' + j * 18 + i = off' + (18 * j + i) by omega]
    exact this
def encB (l : List (PO × Lie)) : List UInt8 := (l.map Prod.fst).flatMap opBytes
theorem encB_next {l : List (PO × Lie)} {k : Nat} {p : PO × Lie} (h : l[k]? = some p) : encB (l.take k) ++ opBytes p.1 = encB (l.take (k + 1)) := by
  unfold encB
  rw [List.take_add_one, h]
  simp
theorem encB_len (l : List (PO × Lie)) (k : Nat) : (encB (l.take k)).length ≤ (encB l).length := by
  have : encB l = encB (l.take k) ++ encB (l.drop k) := by
    unfold encB
    rw [← List.flatMap_append, ← List.map_append, List.take_append_drop]
  rw [this, List.length_append]
  omega

set_option maxRecDepth 20000 in
set_option maxHeartbeats 4000000 in
theorem encode_at (w : World) (v : Value) (l : List (PO × Lie)) (B : Nat) (h : OpsAt w B v l) (hfit : ∀ p ∈ l, p.1.fit) (hlen : (encB l).length ≤ 300000) (hll : l.length ≤ 100000) :
    Calls Try.prog 6 #[v] w fun e w' => ∃ v', e = .returned v' ∧ OwnSl w' 5 1 v' (encB l).length (u8s (encB l)) ∧ Mod (fun _ => False) w w' := by
  obtain ⟨va, vc, rfl, hvc⟩ := h.own.shape
  have hll' : (l.length : Int) ≤ 100000 := by omega
  have hvc' : (l.length : Int) ≤ vc := by omega
  obtain ⟨p, hp⟩ : ∃ p, w.heap.size = p := ⟨_, rfl⟩
  obtain ⟨wb, hwb⟩ : ∃ wb : World, w.alloc (.cells #[.slice none 0 0] 46) = wb := ⟨_, rfl⟩
  have hmwb : Mod (fun _ => False) w wb := hwb ▸ (Mod.refl (fun _ => False) w).alloc _
  have hgwb := heap_alloc_new w (.cells #[.slice none 0 0] 46)
  rw [hwb] at hgwb
  have hzwb : wb.heap.size = w.heap.size + 1 := by rw [← hwb]; simp
  rw [hp] at hgwb hzwb
  have hown := h.own.rd
  have hvl := h.own.lt
  have hops : ∀ q ∈ l, OpOwn w B q.1 q.2 := h.ops
  have hwt0 : Wtr wb p (.slice none 0 0) [] := ⟨hgwb, OwnSl.nil _ _ _⟩
  have hw0 := Wrote.refl wb p (.slice none 0 0)
  have Hwb := Lib.hid hwb
  have Hwt0 := Lib.hid hwt0
  have Hw0 := Lib.hid hw0
  have Hmwb := Lib.hid hmwb
  have Hown := Lib.hid hown
  have Hvl := Lib.hid hvl
  have Hops := Lib.hid hops
  have Hfit := Lib.hid hfit
  clear hwb hwt0 hw0 hmwb hown hvl hops hfit h hgwb hvc
  go_enter Try.func6, Try.ntmps6
  go_wp2_with (first | (rw [show w.alloc _ = wb from Hwb.out]) | fail)
  go_loopw [8] (fun i wr => ∃ (k : Nat) (vw : Value), i = .int .i64 k ∧ k ≤ l.length ∧ Wtr wr p vw (encB (l.take k)) ∧ Wrote wb p (.slice none 0 0) wr vw) (fun i _ => l.length - (intOf i).toNat)
  case atStart => exact ⟨0, _, rfl, Nat.zero_le _, Hwt0.out, Hw0.out⟩
  case round =>
    obtain ⟨k, vw, rfl, hk, hwt, hwr⟩ := hrel
    have hbl := encB_len l k
    by_cases hlt : k < l.length
    · have hlt' : (k : Int) < l.length := by omega
      obtain ⟨⟨o, y⟩, hok⟩ : ∃ q, l[k]? = some q := ⟨_, List.getElem?_eq_getElem hlt⟩
      have hom := List.mem_of_getElem? hok
      have hF : ∀ b, b < p → ¬ (b = p ∨ inBlock (.slice none 0 0) b) := fun b hb hh => hh.elim (fun e => by omega) (fun e => by cases e)
      obtain ⟨g, off, rfl, hc⟩ : ∃ g off, va = some ⟨g, off, none⟩ ∧ CellsAt wr g (off + k * 18) (opCells o y) := rd_op ((Hown.out.mod Hmwb.out (fun _ _ h => h)).mod hwr.mod (fun b hb => hF b (by have := Hvl.out b hb; omega))) hok
      have ho := Hops.out _ hom
      have hlo : ∀ b, OpBlk (o, y) b → b < p := fun b hb => by have := (ho.lt (p := (o, y)) hb).2; omega
      have ho2 := (ho.keep (p := (o, y)) Hmwb.out (fun _ _ h => h)).keep (p := (o, y)) hwr.mod (fun b hb => hF b (hlo b hb))
      have hrs := hwr.mod.size
      have hrd : OpRd wr p vw o y := ⟨ho2.r.rd, ho2.e.rd, ho2.f.rd, fun b hb => ⟨fun e => by have := hlo b hb; omega, fun e => (hwr.new b e).elim (fun e => by cases e) (fun e => by have := hlo b hb; omega)⟩, fun b hb => by have := hlo b hb; omega⟩
      obtain ⟨wz, hwz⟩ : ∃ wz : World, wr.alloc (.cells (opCells o y).toArray 37) = wz := ⟨_, rfl⟩
      have hmwz : Mod (fun _ => False) wr wz := hwz ▸ (Mod.refl (fun _ => False) wr).alloc _
      have hgwz := heap_alloc_new wr (.cells (opCells o y).toArray 37)
      rw [hwz] at hgwz
      have hzwz : wz.heap.size = wr.heap.size + 1 := by rw [← hwz]; simp
      have hcall := wr_op wz p vw _ (hwt.same hmwz) (by omega) o y (Hfit.out _ hom) (hrd.same hmwz)
      have hnx := encB_next hok
      have hwz2 := hwr.also hmwz (fun _ h => h.elim)
      have Hc := Lib.hid hc
      have Hwz := Lib.hid hwz
      have Hgwz := Lib.hid hgwz
      have Hcall := Lib.hid hcall
      have Hnx := Lib.hid hnx
      have Hwz2 := Lib.hid hwz2
      clear hc hwz hgwz hcall hnx hwz2 hwt hwr hok hom ho ho2 hrd hmwz hzwz hlo
      go_wp2_with (first | ((with_reducible refine wpList_load_lit 37 (.tmp 10) ?_); refine ⟨g, off + k * 18, rfl, opCells o y, Hc.out, by kernel_rfl, by kernel_rfl, ?_⟩) | ((with_reducible refine wpList_store_lit 37 (.tmp 5) (.tmp 11) ?_); refine ⟨rfl, opCells o y, rfl, rfl, by kernel_rfl, rfl, ?_⟩; rw [Hwz.out]) | ((with_reducible refine wpList_load_lit 37 (.tmp 5) ?_); refine ⟨wr.heap.size, 0, rfl, opCells o y, CellsAt.row Hgwz.out, by kernel_rfl, by kernel_rfl, ?_⟩) | fail)
      refine Hcall.out.mono ?_
      rintro e w4 ⟨rfl, vw2, hw4, hwr4⟩
      rw [Hnx.out] at hw4
      have hwr5 := Hwz2.out.trans hwr4
      have Hw4 := Lib.hid hw4
      have Hwr5 := Lib.hid hwr5
      clear hw4 hwr5 hwr4 Hcall Hwz2
      go_wp2_with fail
      go_roundw
      case rel => exact ⟨k + 1, vw2, by go_num, hlt, Hw4.out, Hwr5.out⟩
      case measure => simp [intOf]; omega
    · obtain rfl : l.length = k := by omega
      rw [List.take_length] at hwt
      have hby := wr_bytes wr p vw _ hwt (by omega)
      have Hby := Lib.hid hby
      have Hwr := Lib.hid hwr
      clear hby hwr hwt
      go_wp2_with fail
      refine Hby.out.mono ?_
      rintro e w5 ⟨v5, rfl, ho5, -, hm5⟩
      have hm05 : Mod (fun _ => False) w w5 := ((Hmwb.out.upon Hwr.out.mod (fun b hb => hb.elim (fun e => .inr (by omega)) (fun e => by cases e)))).trans hm5 (fun _ _ h => h)
      have Ho5 := Lib.hid ho5
      have Hm05 := Lib.hid hm05
      clear ho5 hm05 hm5 Hby Hwr
      go_wp2_with fail
      go_ret
      exact ⟨_, rfl, Ho5.out, Hm05.out⟩
end Go.Proofs.Ytmlnklbjjnjplaa
