/-
  The call that Decode hands to Read: op by op, till one is none.
-/
import Derived.Test.YtmlnklbjjnjplaaOpsat
import Derived.Test.YtmlnklbjjnjplaaBone
import Derived.Test.YtmlnklbjjnjplaaRead
import Derived.Deep.LoopGhost
namespace Go.Proofs.Ytmlnklbjjnjplaa
open Go.RowKit

/-- What the loop holds: so many bytes are left. -/
def DecRel (w : World) (r G C : Nat) (bs : List UInt8) (n : Nat) (wr : World) : Prop :=
  ∃ (l : List (PO × Lie)) (t : List UInt8) (v : Value), n = t.length ∧ Dec bs (l.map Prod.fst) t ∧ OpsAt wr w.heap.size v l ∧ wr.heap[C]? = some (.cells #[v] 24 (0, 0)) ∧ Rdr wr r G t ∧ Mod (fun k => k = r ∨ k = C) w wr
/-- What it comes to. -/
def DecPost (w : World) (r G C : Nat) (bs : List UInt8) (e : Ending) (w' : World) : Prop :=
  ∃ (l : List (PO × Lie)) (t : List UInt8) (v : Value), Dec bs (l.map Prod.fst) t ∧ OpsAt w' w.heap.size v l ∧ w'.heap[C]? = some (.cells #[v] 24 (0, 0)) ∧ Mod (fun k => k = r ∨ k = C) w w' ∧
    ((readO t = none ∧ e = .panicked short) ∨ (∃ o t', readO t = some (o, false, t') ∧ e = .returned (.tuple #[]) ∧ Rdr w' r G t'))

set_option maxRecDepth 20000 in
set_option maxHeartbeats 4000000 in
theorem dec1_at (w : World) (r G C : Nat) (bs : List UInt8) (h : Rdr w r G bs) (hG : G < w.heap.size) (hC : w.heap[C]? = some (.cells #[.slice none 0 0] 24 (0, 0))) (hCr : C ≠ r) (hCG : C ≠ G) (hb : bs.length ≤ 2000) :
    Calls Try.prog 10 #[.pointer (some ⟨r, 0, none⟩), .pointer (some ⟨C, 0, none⟩)] w (DecPost w r G C bs) := by
  have hrl := h.lt
  have hCl : C < w.heap.size := (Array.getElem?_eq_some_iff.1 hC).1
  have H := Lib.hid h
  have HC := Lib.hid hC
  clear h hC
  go_enter Try.func10, Try.ntmps10
  go_wp2_with fail
  go_loopg [] bs.length (fun n wr => DecRel w r G C bs n wr)
  case atStart => exact ⟨[], bs, _, rfl, .nil _, OpsAt.nil _ _, HC.out, H.out, Mod.refl _ _⟩
  case round =>
    obtain ⟨l, t, v, rfl, hdec, hops, hCr2, hr, hm⟩ := hrel
    obtain ⟨va, vc, rfl, hvc⟩ := hops.own.shape
    have hsz := hm.size
    have hn := next_at wr r G t hr (by omega)
    have hl2 := hdec.back.2.2
    rw [List.length_map] at hl2
    have hll : l.length ≤ 1000 := by omega
    have hvlt := hops.own.lt
    have Hn := Lib.hid hn
    have Hdec := Lib.hid hdec
    have Hops := Lib.hid hops
    have HCr2 := Lib.hid hCr2
    have Hr := Lib.hid hr
    have Hm := Lib.hid hm
    have Hl2 := Lib.hid hl2
    have Hvlt := Lib.hid hvlt
    clear hn hdec hops hCr2 hr hm hl2 hvlt
    go_wp2_with fail
    refine Hn.out.mono ?_
    rintro e w2 (⟨hgo, rfl, hm2⟩ | ⟨o, ok, t2, y, hgo, rfl, ho, hr2, hm2⟩)
    · exact ⟨rfl, l, t, _, Hdec.out, Hops.out.mod hm2 (fun b hb => by omega), hm2.heap HCr2.out hCr, (Hm.out.trans (hm2.mono (fun _ _ h => .inl h)) (fun _ _ h => h)), .inl ⟨hgo, rfl⟩⟩
    have hops2 := Hops.out.mod hm2 (fun b hb => by omega)
    have hC2 := hm2.heap HCr2.out hCr
    have hm02 := Hm.out.trans (hm2.mono (fun _ _ h => .inl h)) (fun _ _ h => h)
    obtain ⟨w3, hw3⟩ : ∃ w3 : World, w2.alloc (.cells (opCells o y).toArray 37) = w3 := ⟨_, rfl⟩
    have hmw3 : Mod (fun _ => False) w2 w3 := hw3 ▸ (Mod.refl (fun _ => False) w2).alloc _
    have hgw3 := heap_alloc_new w2 (.cells (opCells o y).toArray 37)
    rw [hw3] at hgw3
    have hzw3 : w3.heap.size = w2.heap.size + 1 := by rw [← hw3]; simp
    have hops3 := hops2.mod hmw3 (fun _ h => h.elim)
    have ho3 := ho.keep (p := (o, y)) hmw3 (fun _ _ h => h)
    have hC3 := hmw3.heap hC2 (fun h => h)
    have hr3 := hr2.new hmw3 (B := w.heap.size) hrl hG (by simp)
    have hm03 := hm02.trans (hmw3.mono (by simp)) (fun _ _ h => h)
    have hs2 := hm2.size
    have Hops3 := Lib.hid hops3
    have Ho3 := Lib.hid ho3
    have HC3 := Lib.hid hC3
    have Hr3 := Lib.hid hr3
    have Hm03 := Lib.hid hm03
    have Hgw3 := Lib.hid hgw3
    have Hw3 := Lib.hid hw3
    have Hgo := Lib.hid hgo
    clear hops3 ho3 hC3 hr3 hm03 hgw3 hw3 hgo hops2 ho hC2 hr2 hm02 hmw3 hm2 Hn Hops HCr2 Hr Hm
    cases ok with
    | false =>
      go_wp2_with (first | ((with_reducible refine wpList_store_lit 37 (.tmp 3) (.tmp 8) ?_); refine ⟨rfl, opCells o y, rfl, rfl, by kernel_rfl, rfl, ?_⟩; rw [Hw3.out]) | fail)
      exact ⟨rfl, .tuple #[], by simp [results, Try.results10], l, t, _, Hdec.out, Hops3.out, HC3.out, Hm03.out, .inr ⟨o, t2, Hgo.out, rfl, Hr3.out⟩⟩
    | true =>
      have cC : w3.cell? ⟨C, 0, none⟩ = some (.slice va l.length vc) := cell_of HC3.out rfl
      obtain ⟨w4, hw4⟩ : ∃ w4 : World, w3.alloc (.cells (opCells o y).toArray 37) = w4 := ⟨_, rfl⟩
      have hmw4 : Mod (fun _ => False) w3 w4 := hw4 ▸ (Mod.refl (fun _ => False) w3).alloc _
      have hgw4 := heap_alloc_new w3 (.cells (opCells o y).toArray 37)
      rw [hw4] at hgw4
      have hzw4 : w4.heap.size = w3.heap.size + 1 := by rw [← hw4]; simp
      have hrz : RdSl w4 18 (.slice (some ⟨w3.heap.size, 0, none⟩) 1 1) 1 (opCells o y) := hw4 ▸ RdSl.one w3 (opCells o y) 37 rfl
      have hone : ∀ u ∈ opCells o y, u.oneCell' = true := fun u hu => List.all_eq_true.1 (show (opCells o y).all (·.oneCell') = true from rfl) u hu
      have hops4 := Hops3.out.mod hmw4 (fun _ h => h.elim)
      have ho4 := Ho3.out.keep (p := (o, y)) hmw4 (fun _ _ h => h)
      have hC4 := hmw4.heap HC3.out (fun h => h)
      have hr4 := Hr3.out.new hmw4 (B := w.heap.size) hrl hG (by simp)
      have hm04 := Hm03.out.trans (hmw4.mono (by simp)) (fun _ _ h => h)
      have Hrz := Lib.hid hrz
      have Hone := Lib.hid hone
      have Hops4 := Lib.hid hops4
      have Ho4 := Lib.hid ho4
      have HC4 := Lib.hid hC4
      have Hr4 := Lib.hid hr4
      have Hm04 := Lib.hid hm04
      have Hw4 := Lib.hid hw4
      clear hrz hone hops4 ho4 hC4 hr4 hm04 hw4 Hops3 Ho3 HC3 Hr3 Hm03 hmw4 hgw4 hzw4
      go_wp2_with (first | ((with_reducible refine wpList_store_lit 37 (.tmp 3) (.tmp 8) ?_); refine ⟨rfl, opCells o y, rfl, rfl, by kernel_rfl, rfl, ?_⟩; rw [Hw3.out]) | ((with_reducible refine wpList_load_lit 37 (.tmp 3) ?_); refine ⟨w2.heap.size, 0, rfl, opCells o y, CellsAt.row Hgw3.out, by kernel_rfl, by kernel_rfl, ?_⟩) | ((with_reducible refine wpList_build_one_lit 24 (.tmp 13) ?_); refine ⟨37, 18, Try.underlying24, by kernel_rfl, by kernel_rfl, by decide, by decide, opCells o y, rfl, rfl, ?_⟩; rw [Hw4.out]) | ((with_reducible refine wpList_append_lit (.tmp 12) (.tmp 14) 24 ?_); refine ⟨rfl, 37, 18, 240, ops_T, .slice va l.length vc, l.length, opsCells l, rfl, Hops4.out.own, _, 1, opCells o y, rfl, Hrz.out, Hone.out, by omega, by unfold maxLen; omega, ?_⟩; intro ad cap5 w5 hA; have hC5 := hA.2.1.heap HC4.out (fun hi => by have := Hops4.out.vb C hi; omega); have k5 : w5.cell? ⟨C, 0, none⟩ = some (.slice va l.length vc) := cell_of hC5 rfl; have f5 : w5.frozen? ⟨C, 0, none⟩ = false := fr_of hC5; have HA := Lib.hid hA; have HC5 := Lib.hid hC5; clear hA hC5) | fail)
      go_roundg t2.length
      case measure =>
        have e := (readO_back Hgo.out).2 rfl
        have := opBytes_pos o
        rw [e, List.length_append]
        omega
      case rel =>
        have hmC : Mod (fun k => k = C) w5 (w5.setCell ⟨C, 0, none⟩ (.slice ad (l.length + 1) cap5)) := (Mod.refl (fun k => k = C) w5).setCell (fun _ => rfl) _
        have hops5 := Hops4.out.app (p := (o, y)) (Ho4.out.low (by omega)) (fun b hb hq => by have := Hvlt.out b hb; have := (Ho4.out.lt hq).1; omega) (by have := Hm04.out.size; omega) HA.out
        refine ⟨l ++ [(o, y)], t2, _, rfl, ?_, ?_, heap_set HC5.out, ?_, ?_⟩
        · rw [List.map_append]
          exact Hdec.out.snoc Hgo.out
        · have := hops5.mod hmC (fun b (hb : b = C) => by omega)
          exact this
        · exact (Hr4.out.new HA.out.2.1 (B := w.heap.size) hrl hG (fun k hk => Hops4.out.vb k hk)).mod hmC (fun e : r = C => hCr e.symm) (fun _ (e : G = C) => hCG e.symm)
        · exact (Hm04.out.upon HA.out.2.1 (fun b hb => .inr (Hops4.out.vb b hb))).upon hmC (fun b hb => .inl (.inr hb))
end Go.Proofs.Ytmlnklbjjnjplaa
