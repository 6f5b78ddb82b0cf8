/-
  gazettelaw19.right: what it says of ops.
  wire.Rule and wire.ReadRule.
  The call that Decode hands to Read: op by op, till one is none.
  script.Decode.
  The first ones of ops; bytes that are owned.
-/
import Derived.Test.YtloplmaekonenaaGreatDoorZi37
import Derived.Test.YtloplmaekonenaaGreatDoorZi7
import Derived.Test.YtloplmaekonenaaGreatDoorZi35
import Derived.Test.YtloplmaekonenaaGreatDoorZi24
import Derived.Test.YtloplmaekonenaaGreatDoorZi31
import Derived.Test.YtloplmaekonenaaGreatDoorZi14
import Derived.Test.YtloplmaekonenaaGreatDoorZi33
import Derived.Test.YtloplmaekonenaaGreatDoorZi26
import Derived.Deep.LoopGhost
import Derived.Test.YtloplmaekonenaaGreatDoorZi36
namespace Go.Proofs.YtloplmaekonenaaGreatDoor
set_option maxRecDepth 20000
open Go.RowKit
def Right19Post (w : World) (l : List (PO × Lie)) (e : Ending) (w' : World) : Prop := ∃ b, e = .returned (.bool b) ∧ (b = true → (∀ p ∈ l, OpLight p.1 ∧ OpRight p.1) ∧ l.length ≤ 80) ∧ Mod (fun _ => False) w w'
def R19 (w : World) (l : List (PO × Lie)) (iv : Value) (wr : World) : Prop := ∃ j : Nat, iv = .int .i64 j ∧ j ≤ l.length ∧ (∀ p ∈ l.take j, OpRight p.1) ∧ Mod (fun _ => False) w wr
set_option maxRecDepth 20000 in
set_option maxHeartbeats 8000000 in
theorem right19_at (w : World) (v : Value) (l : List (PO × Lie)) (hv : RdSl w 18 v l.length (opsCells l)) (hop : ∀ p ∈ l, OpArg w p) (hll : l.length ≤ 9223372036854775807) :
    Calls Tryz.prog 37 #[v] w (Right19Post w l) := by
  obtain ⟨a, cap, rfl, hcap⟩ : ∃ a c, v = .slice a l.length c ∧ l.length ≤ c := by obtain ⟨-, a, c, h, h2, -⟩ := hv; exact ⟨a, c, h, h2⟩
  have hll' : (l.length : Int) ≤ 9223372036854775807 := by omega
  have hcap' : (l.length : Int) ≤ cap := by omega
  have Hv := Lib.hid hv
  have Hop := Lib.hid hop
  clear hv hop hll
  go_enter Tryz.func37, Tryz.ntmps37
  go_wp2_with fail
  go_loopw [7] (fun i wr => R19 w l i wr) (fun i _ => l.length - (intOf i).toNat)
  case atStart => exact ⟨0, rfl, Nat.zero_le _, fun x h => by simp at h, Mod.refl _ _⟩
  case round =>
    revert wr
    intro wr hrel
    obtain ⟨j, rfl, hj, hall, hmr⟩ := hrel
    by_cases hlt : j < l.length
    · have hlt' : (j : Int) < l.length := by omega
      obtain ⟨⟨o, ⟨ra, rc, ea, ec, fa, fc⟩⟩, hxj⟩ : ∃ x, l[j]? = some x := ⟨_, List.getElem?_eq_getElem hlt⟩
      have hx := (Hop.out _ (List.mem_of_getElem? hxj)).mod hmr
      obtain ⟨g, off, rfl, hf⟩ : ∃ g off, a = some ⟨g, off, none⟩ ∧ CellsAt wr g (off + j * 18) (opCells o ⟨ra, rc, ea, ec, fa, fc⟩) := rd_op (Hv.out.mod hmr (fun _ _ h => h)) hxj
      obtain ⟨wz, hwz⟩ : ∃ wz : World, wr.alloc (.cells (opCells o ⟨ra, rc, ea, ec, fa, fc⟩).toArray 119) = wz := ⟨_, rfl⟩
      have hmwz : Mod (fun _ => False) wr wz := hwz ▸ (Mod.refl (fun _ => False) wr).alloc _
      have hgwz := heap_alloc_new wr (.cells (opCells o ⟨ra, rc, ea, ec, fa, fc⟩).toArray 119)
      rw [hwz] at hgwz
      have hzwz : wz.heap.size = wr.heap.size + 1 := by rw [← hwz]; simp
      have hmz := hmr.trans hmwz (fun _ _ h => h)
      have hxz := hx.mod hmwz
      have h63 : ∀ n : Nat, n ≤ maxLen → n ≤ 9223372036854775807 := fun n h => by unfold maxLen at h; omega
      have f0 : wz.cell? ⟨wr.heap.size, 13, none⟩ = some (.string o.fsc) := cell_of hgwz rfl
      have f1 : wz.cell? ⟨wr.heap.size, 14, none⟩ = some (.slice fa o.fs.length fc) := cell_of hgwz rfl
      have hr1 := filter_right wz o.fsc (.slice fa o.fs.length fc) o.fs hxz.f (h63 _ hx.fsc.2) (h63 _ hx.fsc.1) (fun c hc => h63 _ (hx.fs c hc).1)
      obtain ⟨B1, hB1⟩ : ∃ B1, filRight o.fsc o.fs = B1 := ⟨_, rfl⟩
      rw [hB1] at hr1
      have hfc : ∀ w', Mod (fun _ => False) wz w' → w'.heap[wr.heap.size]? = some (.cells (opCells o ⟨ra, rc, ea, ec, fa, fc⟩).toArray 119 (0, 0)) := fun w' h => h.heap hgwz (fun h => h)
      have hr2 : ∀ w', Mod (fun _ => False) wz w' → Calls Tryz.prog 20 #[.agg #[.string o.r.sc, .slice ra o.r.cs.length rc]] w' fun e w'' => e = .returned (.bool (filRight o.r.sc o.r.cs)) ∧ Mod (fun _ => False) w' w'' := fun w' h =>
        filter_right w' o.r.sc (.slice ra o.r.cs.length rc) o.r.cs (hxz.mod h).r.rd hx.r.len hx.r.sc (fun c hc => (hx.r.cname c hc).1)
      have Hmr := Lib.hid hmr
      have Hxj := Lib.hid hxj
      have Hx := Lib.hid hx
      have Hf := Lib.hid hf
      have Hwz := Lib.hid hwz
      have Hmwz := Lib.hid hmwz
      have Hgwz := Lib.hid hgwz
      have Hmz := Lib.hid hmz
      have Hxz := Lib.hid hxz
      have Hr1 := Lib.hid hr1
      have Hr2 := Lib.hid hr2
      have Hfc := Lib.hid hfc
      have Hall := Lib.hid hall
      have HB1 := Lib.hid hB1
      clear hmr hxj hx hf hwz hmwz hgwz hmz hxz hr1 hr2 hfc hall hB1 hzwz h63
      go_wp2_with (first | ((with_reducible refine wpList_load_lit 119 (.tmp 9) ?_); refine ⟨g, off + j * 18, rfl, opCells o ⟨ra, rc, ea, ec, fa, fc⟩, Hf.out, by kernel_rfl, by kernel_rfl, ?_⟩) | ((with_reducible refine wpList_store_lit 119 (.tmp 4) (.tmp 10) ?_); refine ⟨rfl, opCells o ⟨ra, rc, ea, ec, fa, fc⟩, rfl, rfl, by kernel_rfl, rfl, ?_⟩; rw [Hwz.out]) | fail)
      refine Hr1.out.mono ?_
      rintro e w3 ⟨rfl, hm3⟩
      have hm03 := Hmz.out.trans hm3 (fun _ _ h => h)
      cases B1 with
      | false =>
        have Hm3 := Lib.hid hm3
        have Hm03 := Lib.hid hm03
        clear hm3 hm03
        go_wp2_with fail
        go_ret
        exact ⟨false, rfl, (fun h => by cases h), Hm03.out⟩
      | true =>
        have hg3 := Hfc.out w3 hm3
        have r0 : w3.cell? ⟨wr.heap.size, 7, none⟩ = some (.string o.r.sc) := cell_of hg3 rfl
        have r1 : w3.cell? ⟨wr.heap.size, 8, none⟩ = some (.slice ra o.r.cs.length rc) := cell_of hg3 rfl
        have hr23 := Hr2.out w3 hm3
        obtain ⟨B2, hB2⟩ : ∃ B2, filRight o.r.sc o.r.cs = B2 := ⟨_, rfl⟩
        rw [hB2] at hr23
        have Hm3 := Lib.hid hm3
        have Hm03 := Lib.hid hm03
        have Hg3 := Lib.hid hg3
        have Hr23 := Lib.hid hr23
        have HB2 := Lib.hid hB2
        clear hm3 hm03 hg3 hr23 hB2
        go_wp2_with fail
        refine Hr23.out.mono ?_
        rintro e w4 ⟨rfl, hm4⟩
        have hm04 := Hm03.out.trans hm4 (fun _ _ h => h)
        cases B2 with
        | false =>
          have Hm4 := Lib.hid hm4
          have Hm04 := Lib.hid hm04
          clear hm4 hm04
          go_wp2_with fail
          go_ret
          exact ⟨false, rfl, (fun h => by cases h), Hm04.out⟩
        | true =>
          have hnx : ∀ p ∈ l.take (j + 1), OpRight p.1 := fun p hp => by
            rw [List.take_add_one, Hxj.out] at hp
            rcases List.mem_append.1 hp with hp | hp
            · exact Hall.out p hp
            · obtain rfl : p = (o, ⟨ra, rc, ea, ec, fa, fc⟩) := by simpa using hp
              exact ⟨HB1.out, HB2.out⟩
          have Hm4 := Lib.hid hm4
          have Hm04 := Lib.hid hm04
          have Hnx := Lib.hid hnx
          clear hm4 hm04 hnx
          go_wp2_with fail
          go_roundw
          case rel => exact ⟨j + 1, by go_num, hlt, Hnx.out, Hm04.out⟩
          case measure => simp [intOf]; omega
    · obtain rfl : j = l.length := by omega
      rw [List.take_length] at hall
      have hli := light18_at wr (.slice a l.length cap) l (Hv.out.mod hmr (fun _ _ h => h)) (fun p hp => (Hop.out p hp).mod hmr) (by omega)
      have Hmr := Lib.hid hmr
      have Hall := Lib.hid hall
      have Hli := Lib.hid hli
      clear hmr hall hli
      go_wp2_with fail
      refine Hli.out.mono ?_
      rintro e w3 ⟨b, rfl, hb, hm3⟩
      have hm03 := Hmr.out.trans hm3 (fun _ _ h => h)
      cases b with
      | false =>
        have Hb := Lib.hid hb
        have Hm3 := Lib.hid hm3
        have Hm03 := Lib.hid hm03
        clear hb hm3 hm03
        go_wp2_with fail
        go_ret
        exact ⟨false, rfl, (fun h => by cases h), Hm03.out⟩
      | true =>
        have hb2 := hb rfl
        have Hb := Lib.hid hb
        have Hm3 := Lib.hid hm3
        have Hm03 := Lib.hid hm03
        have Hb2 := Lib.hid hb2
        clear hb hm3 hm03 hb2
        go_wp2_with fail
        go_ret
        refine ⟨_, rfl, fun h => ⟨fun p hp => ⟨Hb2.out p hp, Hall.out p hp⟩, ?_⟩, Hm03.out⟩
        have h2 : (l.length : Int) ≤ 80 := by simpa using h
        omega
end Go.Proofs.YtloplmaekonenaaGreatDoor
namespace Go.Proofs.YtloplmaekonenaaGreatDoor
set_option maxRecDepth 20000
open Go.RowKit
theorem cell_lt {w : World} {g o : Nat} {v : Value} (h : w.cell? ⟨g, o, none⟩ = some v) : g < w.heap.size := by
  rcases Nat.lt_or_ge g w.heap.size with h1 | h1
  · exact h1
  · have h2 : w.heap[g]? = none := Array.getElem?_eq_none h1
    simp [World.cell?, h2] at h
theorem RdSl.blt {w : World} {sz n : Nat} {a : Option Addr} {c : Nat} {xs : List Value} (h : RdSl w sz (.slice a n c) n xs) (hs : 0 < sz) (hn : 0 < n) : ∀ b, (Value.slice a n c).ownBlock = some b → b < w.heap.size := fun b hb => by
  obtain ⟨h1, a', c', e, h3, h4, h5⟩ := h
  cases e
  cases a with
  | none => cases hb
  | some A =>
    obtain ⟨g, off, h6, h7⟩ := h5 A rfl hn
    subst h6
    cases hb
    have h8 : 0 < xs.length := by rw [h1]; exact Nat.mul_pos hn hs
    exact cell_lt (h7 0 _ (List.getElem?_eq_getElem h8))
set_option maxHeartbeats 4000000 in
theorem wrule_at (w : World) (r : PRu) (hf : r.fit) (a : Option Addr) (cap : Nat) (hcs : RdSl w 7 (.slice a r.cs.length cap) r.cs.length (cnds r.cs)) : Calls Tryz.prog 66 #[.agg (r.lies a cap).cells.toArray] w fun e w' =>
    ∃ v', e = .returned v' ∧ OwnSl w' 5 1 v' (ruBytes r).length (u8s (ruBytes r)) ∧ (∀ b, v'.ownBlock = some b → w.heap.size ≤ b) ∧ Mod (fun _ => False) w w' := by
  obtain ⟨wa, hwa⟩ : ∃ wa : World, w.alloc (.cells (r.lies a cap).cells.toArray 117) = wa := ⟨_, rfl⟩
  have hmwa : Mod (fun _ => False) w wa := hwa ▸ (Mod.refl (fun _ => False) w).alloc _
  have hgwa := heap_alloc_new w (.cells (r.lies a cap).cells.toArray 117)
  rw [hwa] at hgwa
  have hzwa : wa.heap.size = w.heap.size + 1 := by rw [← hwa]; simp
  obtain ⟨wb, hwb⟩ : ∃ wb : World, wa.alloc (.cells #[.slice none 0 0] 124) = wb := ⟨_, rfl⟩
  have hmwb : Mod (fun _ => False) wa wb := hwb ▸ (Mod.refl (fun _ => False) wa).alloc _
  have hgwb := heap_alloc_new wa (.cells #[.slice none 0 0] 124)
  rw [hwb] at hgwb
  have hzwb : wb.heap.size = wa.heap.size + 1 := by rw [← hwb]; simp
  rw [hzwa] at hgwb
  have hm0b := hmwa.trans hmwb (fun _ _ h => h)
  have hca := CellsAt.row (hmwb.heap hgwa (fun h => h))
  have hbl := fun hn => hcs.blt (by decide : 0 < 7) hn
  have hpr := put_rule wb (w.heap.size + 1) (.slice none 0 0) [] ⟨hgwb, OwnSl.nil _ _ _⟩ (by simp) r hf a cap (hcs.mod hm0b (fun _ _ h => h)) (fun hn b hb => ⟨fun e => by have := hbl hn b hb; omega, fun h => by cases h⟩) (fun hn b hb => Nat.lt_of_lt_of_le (hbl hn b hb) hm0b.size)
  have hl := put_len r hf 6
  have hl : (ruBytes r).length ≤ 200000 := hl
  have Hpr := Lib.hid hpr
  have Hwa := Lib.hid hwa
  have Hwb := Lib.hid hwb
  have Hm0b := Lib.hid hm0b
  have Hca := Lib.hid hca
  clear hpr hwa hwb hm0b hca hgwa hgwb hmwa hmwb hbl
  go_enter Tryz.func66, Tryz.ntmps66
  go_wp2_with (first | (rw [show w.alloc _ = wa from Hwa.out]) | (rw [show wa.alloc _ = wb from Hwb.out]) | ((with_reducible refine wpList_load_lit 117 (.tmp 1) ?_); refine ⟨w.heap.size, 0, rfl, (r.lies a cap).cells, Hca.out, by kernel_rfl, by kernel_rfl, ?_⟩) | fail)
  refine Hpr.out.mono ?_
  rintro e w2 ⟨rfl, v2, hw2, hwr2⟩
  rw [List.nil_append] at hw2
  have hby := wr_bytes w2 _ v2 _ hw2 (by omega)
  have hm02 := Hm0b.out.upon hwr2.mod (fun b hb => hb.elim (fun e => .inr (by omega)) (fun e => by cases e))
  have hs2 := hm02.size
  have Hby := Lib.hid hby
  have Hm02 := Lib.hid hm02
  clear hby hm02 hw2 hwr2 Hpr Hca
  go_wp2_with fail
  refine Hby.out.mono ?_
  rintro e w3 ⟨v3, rfl, ho3, hb3, hm3⟩
  have hm03 := Hm02.out.trans hm3 (fun _ _ h => h)
  have Ho3 := Lib.hid ho3
  have Hm03 := Lib.hid hm03
  have Hb3 := Lib.hid hb3
  clear ho3 hm03 hb3 hm3 Hby Hm02
  go_wp2_with fail
  go_ret
  exact ⟨_, rfl, Ho3.out, fun b hb => Nat.le_trans hs2 (Hb3.out b hb), Hm03.out⟩
def RrPost (w1 : World) (r G x k : Nat) (bs : List UInt8) (e : Ending) (w2 : World) : Prop :=
  (readRu bs = none ∧ e = .panicked short ∧ Mod (fun j => j = r) w1 w2) ∨
  (∃ p t a c, readRu bs = some (p, t) ∧ e = .returned (.tuple #[]) ∧ OwnSl w2 81 7 (.slice a p.cs.length c) p.cs.length (cnds p.cs) ∧ (∀ b, (Value.slice a p.cs.length c).ownBlock = some b → w1.heap.size ≤ b) ∧ Rdr w2 r G t ∧
    w2.heap[x]? = some (.cells (p.lies a c).cells.toArray 117 (0, 0)) ∧ w2.heap[k]? = some (.cells #[.bool p.rightB] 4 (0, 0)) ∧ Mod (fun j => j = r ∨ j = x ∨ j = k) w1 w2)
set_option maxHeartbeats 4000000 in
theorem rrule1_at (w1 : World) (r G x k : Nat) (bs : List UInt8) (h : Rdr w1 r G bs) (hG : G < w1.heap.size) (b0 : Bool) (hx : w1.heap[x]? = some (.cells (PRu.zero.lies none 0).cells.toArray 117 (0, 0))) (hk : w1.heap[k]? = some (.cells #[.bool b0] 4 (0, 0)))
    (hxr : x ≠ r) (hkr : k ≠ r) (hxk : x ≠ k) (hxG : x ≠ G) (hkG : k ≠ G) :
    Calls Tryz.prog 106 #[.pointer (some ⟨r, 0, none⟩), .pointer (some ⟨x, 0, none⟩), .pointer (some ⟨k, 0, none⟩)] w1 (RrPost w1 r G x k bs) := by
  have ht := take_rule w1 r G bs h hG
  have hxl := (Array.getElem?_eq_some_iff.1 hx).1
  have hkl := (Array.getElem?_eq_some_iff.1 hk).1
  have Ht := Lib.hid ht
  have H := Lib.hid h
  have Hx := Lib.hid hx
  have Hk := Lib.hid hk
  clear ht h hx hk
  go_enter Tryz.func106, Tryz.ntmps106
  go_wp2_with fail
  refine Ht.out.mono ?_
  rintro e w2 (⟨hn, rfl, hm2⟩ | ⟨p, t, a, c, hrd, rfl, ho, hb, hr2, hm2⟩)
  · exact ⟨rfl, .inl ⟨hn, rfl, hm2⟩⟩
  have hx2 := hm2.heap Hx.out hxr
  have hk2 := hm2.heap Hk.out hkr
  have Hrd := Lib.hid hrd
  have Ho := Lib.hid ho
  have Hb := Lib.hid hb
  have Hr2 := Lib.hid hr2
  have Hm2 := Lib.hid hm2
  have Hx2 := Lib.hid hx2
  have Hk2 := Lib.hid hk2
  clear hrd ho hb hr2 hm2 hx2 hk2
  go_wp2_with (first | ((with_reducible refine wpList_store_row_lit 117 (.tmp 1) (.tmp 7) ?_); refine ⟨x, rfl, _, _, Hx2.out, (p.lies a c).cells, rfl, rfl, by kernel_rfl, rfl, ?_⟩; intro w3 hg3 hm3; have Hg3 := Lib.hid hg3; have Hm3 := Lib.hid hm3; have hk3 := hm3.heap Hk2.out (fun e => hxk e.symm); have Hk3 := Lib.hid hk3; have ck3 : w3.cell? ⟨k, 0, none⟩ = some (.bool b0) := cell_of hk3 rfl; have zk3 : w3.frozen? ⟨k, 0, none⟩ = false := fr_of hk3; clear hg3 hm3 hk3) | fail)
  obtain ⟨w4, hw4⟩ : ∃ w4 : World, w3.setCell ⟨k, 0, none⟩ (.bool p.rightB) = w4 := ⟨_, rfl⟩
  have hm4 : Mod (fun j => j = k) w3 w4 := hw4 ▸ (Mod.refl (fun j => j = k) w3).setCell (fun _ => rfl) _
  have hg4 : w4.heap[k]? = some (.cells #[.bool p.rightB] 4 (0, 0)) := hw4 ▸ heap_set Hk3.out
  rw [hw4]
  have Hm4 := Lib.hid hm4
  have Hg4 := Lib.hid hg4
  have Hw4 := Lib.hid hw4
  clear hm4 hg4 hw4
  have hm24 : Mod (fun j => j = x ∨ j = k) w2 w4 := (Hm3.out.mono (fun _ _ h => .inl h)).trans (Hm4.out.mono (fun _ _ h => .inr h)) (fun _ _ h => h)
  have hlo : ∀ j, j = x ∨ j = k → j < w1.heap.size := fun j hj => hj.elim (fun e => by omega) (fun e => by omega)
  exact ⟨rfl, .tuple #[], by simp [results, Tryz.results106], .inr ⟨p, t, a, c, Hrd.out, rfl, Ho.out.mod hm24 (fun b hb' hj => by have := Hb.out b hb'; have := hlo b hj; omega), Hb.out, Hr2.out.mod hm24 (fun e => e.elim (fun e => hxr e.symm) (fun e => hkr e.symm)) (fun _ e => e.elim (fun e => hxG e.symm) (fun e => hkG e.symm)),
    Hm4.out.heap Hg3.out (fun e => hxk e), Hg4.out, (Hm2.out.mono (fun _ _ h => .inl h)).trans (hm24.mono (fun _ _ h => .inr h)) (fun _ _ h => h)⟩⟩
def ReadRu (w : World) (bs : List UInt8) (e : Ending) (w' : World) : Prop :=
  ∃ (p : PRu) (a : Option Addr) (c : Nat) (ok : Bool), e = .returned (.tuple #[.agg (p.lies a c).cells.toArray, .bool ok]) ∧ (ok = true → readRu bs = some (p, []) ∧ p.rightB = true) ∧
    OwnSl w' 81 7 (.slice a p.cs.length c) p.cs.length (cnds p.cs) ∧ (∀ b, (Value.slice a p.cs.length c).ownBlock = some b → w.heap.size ≤ b) ∧ Mod (fun _ => False) w w'
def RrGood (wc : World) (x k kk : Nat) (bs : List UInt8) (ok : Bool) (w2 : World) : Prop :=
  ∃ (p : PRu) (a : Option Addr) (c : Nat) (b : Bool), w2.heap[x]? = some (.cells (p.lies a c).cells.toArray 117 (0, 0)) ∧ w2.heap[k]? = some (.cells #[.bool b] 4 (0, 0)) ∧ (ok = true → readRu bs = some (p, []) ∧ p.rightB = b) ∧
    OwnSl w2 81 7 (.slice a p.cs.length c) p.cs.length (cnds p.cs) ∧ (∀ b, (Value.slice a p.cs.length c).ownBlock = some b → wc.heap.size ≤ b ∧ kk < b) ∧ Mod (fun j => j = x ∨ j = k) wc w2
set_option maxHeartbeats 4000000 in
theorem readrule_at (w : World) (bv : Value) (G : Nat) (bs : List UInt8) (hb : BytesAt w G bv bs) (hG : G < w.heap.size) : Calls Tryz.prog 68 #[bv] w (ReadRu w bs) := by
  have hmf : ∀ (fn : Fn) (first cap : Array Value) (w : World), (Instr.makeFunc fn first cap).run Tryz.prog w = .ok (.func fn first cap) w := fun _ _ _ _ => rfl
  obtain ⟨wa, hwa⟩ : ∃ wa : World, w.alloc (.cells #[.int .i64 0, .int .i64 0, .string ⟨#[]⟩, .int .i64 0, .string ⟨#[]⟩, .slice none 0 0, .string ⟨#[]⟩, .int .i64 0] 117) = wa := ⟨_, rfl⟩
  have hmwa : Mod (fun _ => False) w wa := hwa ▸ (Mod.refl (fun _ => False) w).alloc _
  have hgwa := heap_alloc_new w (.cells #[.int .i64 0, .int .i64 0, .string ⟨#[]⟩, .int .i64 0, .string ⟨#[]⟩, .slice none 0 0, .string ⟨#[]⟩, .int .i64 0] 117)
  rw [hwa] at hgwa
  have hzwa : wa.heap.size = w.heap.size + 1 := by rw [← hwa]; simp
  obtain ⟨wx, hwx⟩ : ∃ wx : World, wa.alloc (.cells #[.int .i64 0, .int .i64 0, .string ⟨#[]⟩, .int .i64 0, .string ⟨#[]⟩, .slice none 0 0, .string ⟨#[]⟩, .int .i64 0] 117) = wx := ⟨_, rfl⟩
  have hmwx : Mod (fun _ => False) wa wx := hwx ▸ (Mod.refl (fun _ => False) wa).alloc _
  have hgwx := heap_alloc_new wa (.cells #[.int .i64 0, .int .i64 0, .string ⟨#[]⟩, .int .i64 0, .string ⟨#[]⟩, .slice none 0 0, .string ⟨#[]⟩, .int .i64 0] 117)
  rw [hwx] at hgwx
  have hzwx : wx.heap.size = wa.heap.size + 1 := by rw [← hwx]; simp
  obtain ⟨wc, hwc⟩ : ∃ wc : World, wx.alloc (.cells #[.bool false] 4) = wc := ⟨_, rfl⟩
  have hmwc : Mod (fun _ => False) wx wc := hwc ▸ (Mod.refl (fun _ => False) wx).alloc _
  have hgwc := heap_alloc_new wx (.cells #[.bool false] 4)
  rw [hwc] at hgwc
  have hzwc : wc.heap.size = wx.heap.size + 1 := by rw [← hwc]; simp
  rw [hzwa] at hgwx
  have hsx : wx.heap.size = w.heap.size + 1 + 1 := by omega
  rw [hsx] at hgwc
  have hm0c := (hmwa.trans hmwx (fun _ _ h => h)).trans hmwc (fun _ _ h => h)
  obtain ⟨wd, hwd⟩ : ∃ wd : World, wc.setCell ⟨w.heap.size + 1 + 1, 0, none⟩ (.bool false) = wd := ⟨_, rfl⟩
  have hmd : Mod (fun k => k = w.heap.size + 1 + 1) wc wd := hwd ▸ (Mod.refl (fun k => k = w.heap.size + 1 + 1) wc).setCell (fun _ => rfl) _
  have hgd : wd.heap[w.heap.size + 1 + 1]? = some (.cells #[.bool false] 4 (0, 0)) := hwd ▸ heap_set hgwc
  have hm0d : Mod (fun _ => False) w wd := hm0c.upon hmd (fun k hk => .inr (by have hk : k = w.heap.size + 1 + 1 := hk; omega))
  have hsd := hmd.size
  have hgx := hmd.heap (hmwc.heap hgwx (fun h => h)) (fun e => by have e : w.heap.size + 1 = w.heap.size + 1 + 1 := e; omega)
  have hga := hmd.heap ((hmwx.trans hmwc (fun _ _ h => h)).heap hgwa (fun h => h)) (fun e => by have e : w.heap.size = w.heap.size + 1 + 1 := e; omega)
  have hc := read_at bv G bs 106 #[.pointer (some ⟨w.heap.size + 1, 0, none⟩), .pointer (some ⟨w.heap.size + 1 + 1, 0, none⟩)] wd (hb.mod hm0d (fun _ h => h)) (by omega) (fun args w => by simp [go_sem])
    (fun kk ok w2 => RrGood wd (w.heap.size + 1) (w.heap.size + 1 + 1) kk bs ok w2)
    (fun r k w1 hm1 hk hr hkr hkl hrd hkh => (rrule1_at w1 r G (w.heap.size + 1) (w.heap.size + 1 + 1) bs hrd (by have := hm1.size; omega) false (hm1.heap hgx (fun h => h)) (hm1.heap hgd (fun h => h)) (by omega) (by omega) (by omega) (by omega) (by omega)).mono fun e w2 h => by
      have hcw := hm1.size
      rcases h with ⟨hn, rfl, hm2⟩ | ⟨p, t, a, c, h1, rfl, h2, h3, h4, h5, h6, h7⟩
      · refine ⟨hm2.heap hkh hkr, .inl ⟨rfl, ⟨PRu.zero, none, 0, false, hm2.heap (hm1.heap hgx (fun h => h)) (by omega), hm2.heap (hm1.heap hgd (fun h => h)) (by omega), (fun h => by cases h), OwnSl.nil _ _ _, (fun b hb => by cases hb), ?_⟩⟩⟩
        exact (hm1.mono (fun _ _ h => h.elim)).upon hm2 (fun j hj => .inr (by have hj : j = r := hj; omega))
      · refine ⟨h7.heap hkh (by omega), .inr ⟨t, rfl, h4, ⟨p, a, c, p.rightB, h5, h6, (fun h => ?_), h2, (fun b hb => ⟨Nat.le_trans hcw (h3 b hb), Nat.lt_of_lt_of_le hkl (h3 b hb)⟩), ?_⟩⟩⟩
        · rw [List.isEmpty_iff] at h
          subst h
          exact ⟨h1, rfl⟩
        · exact (hm1.mono (fun _ _ h => h.elim)).upon h7 (fun j hj => hj.elim (fun e => .inr (by omega)) (fun e => .inl e)))
  have zc : wc.frozen? ⟨w.heap.size + 1 + 1, 0, none⟩ = false := fr_of hgwc
  have cc : wc.cell? ⟨w.heap.size + 1 + 1, 0, none⟩ = some (.bool false) := cell_of hgwc rfl
  have Hc := Lib.hid hc
  have Hm0d := Lib.hid hm0d
  have Hga := Lib.hid hga
  have Hgx := Lib.hid hgx
  have Hgd := Lib.hid hgd
  have Hwa := Lib.hid hwa
  have Hwx := Lib.hid hwx
  have Hwc := Lib.hid hwc
  have Hwd := Lib.hid hwd
  clear hc hm0d hga hgx hgd hwa hwx hwc hwd hb hmwa hmwx hmwc hgwa hgwx hzwx hmd hm0c hgwc
  go_enter Tryz.func68, Tryz.ntmps68
  go_wp2_with (first | (rw [show w.alloc _ = wa from Hwa.out]) | (rw [show wa.alloc _ = wx from Hwx.out]) | (rw [show wx.alloc _ = wc from Hwc.out]) | (rw [show wc.setCell _ _ = wd from Hwd.out]) | fail)
  refine Hc.out.mono ?_
  rintro e w3 ⟨ok, w2, kk, rfl, ⟨p, a, c, b, h1, h2, h3, h4, h5, h6⟩, hk, hm3⟩
  have hx3 := hm3.heap h1 (fun e => by have e : w.heap.size + 1 = kk := e; omega)
  have hk3 := hm3.heap h2 (fun e => by have e : w.heap.size + 1 + 1 = kk := e; omega)
  have ha3 := hm3.heap (h6.heap Hga.out (fun e => by rcases e with e | e <;> omega)) (fun e => by have e : w.heap.size = kk := e; omega)
  have ho3 := h4.mod hm3 (fun b hb (e : b = kk) => by have := (h5 b hb).2; omega)
  have hm03 : Mod (fun _ => False) w w3 := (Hm0d.out.upon h6 (fun j hj => .inr (by rcases hj with e | e <;> omega))).upon hm3 (fun j (hj : j = kk) => .inr (by omega))
  have d5 : w3.cell? ⟨w.heap.size + 1 + 1, 0, none⟩ = some (.bool b) := cell_of hk3 rfl
  have hno : ∀ (w4 : World) (hg4 : w4.heap[w.heap.size]? = some (.cells (PRu.zero.lies none 0).cells.toArray 117 (0, 0))) (hm4 : Mod (fun j => j = w.heap.size) w3 w4), ReadRu w bs (.returned (.tuple #[.agg (PRu.zero.lies none 0).cells.toArray, .bool false])) w4 := fun w4 hg4 hm4 =>
    ⟨PRu.zero, none, 0, false, rfl, (fun h => by cases h), OwnSl.nil _ _ _, (fun b hb => by cases hb), hm03.upon hm4 (fun j hj => .inr (Nat.le_of_eq (Eq.symm hj)))⟩
  have H3 := Lib.hid h3
  have H5 := Lib.hid h5
  have Hx3 := Lib.hid hx3
  have Hk3 := Lib.hid hk3
  have Ha3 := Lib.hid ha3
  have Ho3 := Lib.hid ho3
  have Hm03 := Lib.hid hm03
  have Hno := Lib.hid hno
  have H4 := Lib.hid h4
  clear h3 h5 hx3 hk3 ha3 ho3 hm03 hno h4
  cases ok with
  | false =>
    go_wp2_with (first | ((with_reducible refine wpList_store_row_lit 117 (.tmp 2) (.tmp 14) ?_); refine ⟨w.heap.size, rfl, _, _, Ha3.out, (PRu.zero.lies none 0).cells, rfl, rfl, by kernel_rfl, rfl, ?_⟩; intro w4 hg4 hm4; have Hg4 := Lib.hid hg4; have Hm4 := Lib.hid hm4; have q1 := (CellsAt.row hg4).all rfl; have q2 := (CellsAt.row hg4).is rfl; clear hg4 hm4) | fail)
    refine bodyPost_ret (v := .tuple #[.agg (PRu.zero.lies none 0).cells.toArray, .bool false]) ?_ rfl (Hno.out _ Hg4.out Hm4.out)
    have hl := run_loadVar_cells (P := Tryz.prog) 117 w.heap.size 0 (PRu.zero.lies none 0).cells (CellsAt.row Hg4.out) (by kernel_rfl) (by kernel_rfl)
    simp [results, Tryz.results68, Result.andThen, asAddr, hl]
  | true =>
    cases b with
    | false =>
      go_wp2_with (first | ((with_reducible refine wpList_store_row_lit 117 (.tmp 2) (.tmp 14) ?_); refine ⟨w.heap.size, rfl, _, _, Ha3.out, (PRu.zero.lies none 0).cells, rfl, rfl, by kernel_rfl, rfl, ?_⟩; intro w4 hg4 hm4; have Hg4 := Lib.hid hg4; have Hm4 := Lib.hid hm4; have q1 := (CellsAt.row hg4).all rfl; have q2 := (CellsAt.row hg4).is rfl; clear hg4 hm4) | fail)
      refine bodyPost_ret (v := .tuple #[.agg (PRu.zero.lies none 0).cells.toArray, .bool false]) ?_ rfl (Hno.out _ Hg4.out Hm4.out)
      have hl := run_loadVar_cells (P := Tryz.prog) 117 w.heap.size 0 (PRu.zero.lies none 0).cells (CellsAt.row Hg4.out) (by kernel_rfl) (by kernel_rfl)
      simp [results, Tryz.results68, Result.andThen, asAddr, hl]
    | true =>
      go_wp2_with (first | ((with_reducible refine wpList_load_lit 117 (.tmp 4) ?_); refine ⟨w.heap.size + 1, 0, rfl, (p.lies a c).cells, CellsAt.row Hx3.out, by kernel_rfl, by kernel_rfl, ?_⟩) | ((with_reducible refine wpList_store_row_lit 117 (.tmp 2) (.tmp 15) ?_); refine ⟨w.heap.size, rfl, _, _, Ha3.out, (p.lies a c).cells, rfl, rfl, by kernel_rfl, rfl, ?_⟩; intro w4 hg4 hm4; have Hg4 := Lib.hid hg4; have Hm4 := Lib.hid hm4; have q1 := (CellsAt.row hg4).all rfl; have q2 := (CellsAt.row hg4).is rfl; clear hg4 hm4) | fail)
      refine bodyPost_ret (v := .tuple #[.agg (p.lies a c).cells.toArray, .bool true]) ?_ rfl ⟨p, a, c, true, rfl, (fun _ => H3.out trivial), Ho3.out.mod Hm4.out (fun b hb (e : b = w.heap.size) => by have := (H5.out b hb).1; omega), fun b hb => by have := (H5.out b hb).1; omega, Hm03.out.upon Hm4.out (fun j hj => .inr (Nat.le_of_eq (Eq.symm hj)))⟩
      have hl := run_loadVar_cells (P := Tryz.prog) 117 w.heap.size 0 (p.lies a c).cells (CellsAt.row Hg4.out) (by kernel_rfl) (by kernel_rfl)
      simp [results, Tryz.results68, Result.andThen, asAddr, hl]
end Go.Proofs.YtloplmaekonenaaGreatDoor
namespace Go.Proofs.YtloplmaekonenaaGreatDoor
set_option maxRecDepth 20000
open Go.RowKit
def DecRel (w : World) (r G C : Nat) (bs : List UInt8) (n : Nat) (wr : World) : Prop :=
  ∃ (l : List (PO × Lie)) (t : List UInt8) (v : Value), n = t.length ∧ Dec bs (l.map Prod.fst) t ∧ OpsAt wr w.heap.size v l ∧ wr.heap[C]? = some (.cells #[v] 66 (0, 0)) ∧ Rdr wr r G t ∧ Mod (fun k => k = r ∨ k = C) w wr
def DecPost (w : World) (r G C : Nat) (bs : List UInt8) (e : Ending) (w' : World) : Prop :=
  ∃ (l : List (PO × Lie)) (t : List UInt8) (v : Value), Dec bs (l.map Prod.fst) t ∧ OpsAt w' w.heap.size v l ∧ w'.heap[C]? = some (.cells #[v] 66 (0, 0)) ∧ Mod (fun k => k = r ∨ k = C) w w' ∧
    ((readO t = none ∧ e = .panicked short) ∨ (∃ o t', readO t = some (o, false, t') ∧ e = .returned (.tuple #[]) ∧ Rdr w' r G t'))
set_option maxRecDepth 20000 in
set_option maxHeartbeats 4000000 in
theorem dec1_at (w : World) (r G C : Nat) (bs : List UInt8) (h : Rdr w r G bs) (hG : G < w.heap.size) (hC : w.heap[C]? = some (.cells #[.slice none 0 0] 66 (0, 0))) (hCr : C ≠ r) (hCG : C ≠ G) (hb : bs.length ≤ 200000) :
    Calls Tryz.prog 72 #[.pointer (some ⟨r, 0, none⟩), .pointer (some ⟨C, 0, none⟩)] w (DecPost w r G C bs) := by
  have hrl := h.lt
  have hCl : C < w.heap.size := (Array.getElem?_eq_some_iff.1 hC).1
  have H := Lib.hid h
  have HC := Lib.hid hC
  clear h hC
  go_enter Tryz.func72, Tryz.ntmps72
  go_wp2_with fail
  go_loopg [] bs.length (fun n wr => DecRel w r G C bs n wr)
  case atStart => exact ⟨[], bs, _, rfl, .nil _, OpsAt.nil _ _, HC.out, H.out, Mod.refl _ _⟩
  case round =>
    obtain ⟨l, t, v, rfl, hdec, hops, hCr2, hr, hm⟩ := hrel
    obtain ⟨va, vc, rfl, hvc⟩ := hops.own.shape
    have hsz := hm.size
    have hn := next_at wr r G t hr (by omega)
    have hl2 := hdec.back.2.2
    rw [List.length_map] at hl2
    have hll : l.length ≤ 100000 := by omega
    have hvlt := hops.own.lt
    have Hn := Lib.hid hn
    have Hdec := Lib.hid hdec
    have Hops := Lib.hid hops
    have HCr2 := Lib.hid hCr2
    have Hr := Lib.hid hr
    have Hm := Lib.hid hm
    have Hl2 := Lib.hid hl2
    have Hvlt := Lib.hid hvlt
    clear hn hdec hops hCr2 hr hm hl2 hvlt
    go_wp2_with fail
    refine Hn.out.mono ?_
    rintro e w2 (⟨hgo, rfl, hm2⟩ | ⟨o, ok, t2, y, hgo, rfl, ho, hr2, hm2⟩)
    · exact ⟨rfl, l, t, _, Hdec.out, Hops.out.mod hm2 (fun b hb => by omega), hm2.heap HCr2.out hCr, (Hm.out.trans (hm2.mono (fun _ _ h => .inl h)) (fun _ _ h => h)), .inl ⟨hgo, rfl⟩⟩
    have hops2 := Hops.out.mod hm2 (fun b hb => by omega)
    have hC2 := hm2.heap HCr2.out hCr
    have hm02 := Hm.out.trans (hm2.mono (fun _ _ h => .inl h)) (fun _ _ h => h)
    obtain ⟨w3, hw3⟩ : ∃ w3 : World, w2.alloc (.cells (opCells o y).toArray 119) = w3 := ⟨_, rfl⟩
    have hmw3 : Mod (fun _ => False) w2 w3 := hw3 ▸ (Mod.refl (fun _ => False) w2).alloc _
    have hgw3 := heap_alloc_new w2 (.cells (opCells o y).toArray 119)
    rw [hw3] at hgw3
    have hzw3 : w3.heap.size = w2.heap.size + 1 := by rw [← hw3]; simp
    have hops3 := hops2.mod hmw3 (fun _ h => h.elim)
    have ho3 := ho.keep (p := (o, y)) hmw3 (fun _ _ h => h)
    have hC3 := hmw3.heap hC2 (fun h => h)
    have hr3 := hr2.new hmw3 (B := w.heap.size) hrl hG (by simp)
    have hm03 := hm02.trans (hmw3.mono (by simp)) (fun _ _ h => h)
    have hs2 := hm2.size
    have Hops3 := Lib.hid hops3
    have Ho3 := Lib.hid ho3
    have HC3 := Lib.hid hC3
    have Hr3 := Lib.hid hr3
    have Hm03 := Lib.hid hm03
    have Hgw3 := Lib.hid hgw3
    have Hw3 := Lib.hid hw3
    have Hgo := Lib.hid hgo
    clear hops3 ho3 hC3 hr3 hm03 hgw3 hw3 hgo hops2 ho hC2 hr2 hm02 hmw3 hm2 Hn Hops HCr2 Hr Hm
    cases ok with
    | false =>
      go_wp2_with (first | ((with_reducible refine wpList_store_lit 119 (.tmp 3) (.tmp 8) ?_); refine ⟨rfl, opCells o y, rfl, rfl, by kernel_rfl, rfl, ?_⟩; rw [Hw3.out]) | fail)
      exact ⟨rfl, .tuple #[], by simp [results, Tryz.results72], l, t, _, Hdec.out, Hops3.out, HC3.out, Hm03.out, .inr ⟨o, t2, Hgo.out, rfl, Hr3.out⟩⟩
    | true =>
      have cC : w3.cell? ⟨C, 0, none⟩ = some (.slice va l.length vc) := cell_of HC3.out rfl
      obtain ⟨w4, hw4⟩ : ∃ w4 : World, w3.alloc (.cells (opCells o y).toArray 119) = w4 := ⟨_, rfl⟩
      have hmw4 : Mod (fun _ => False) w3 w4 := hw4 ▸ (Mod.refl (fun _ => False) w3).alloc _
      have hgw4 := heap_alloc_new w3 (.cells (opCells o y).toArray 119)
      rw [hw4] at hgw4
      have hzw4 : w4.heap.size = w3.heap.size + 1 := by rw [← hw4]; simp
      have hrz : RdSl w4 18 (.slice (some ⟨w3.heap.size, 0, none⟩) 1 1) 1 (opCells o y) := hw4 ▸ RdSl.one w3 (opCells o y) 119 rfl
      have hone : ∀ u ∈ opCells o y, u.oneCell' = true := fun u hu => List.all_eq_true.1 (show (opCells o y).all (·.oneCell') = true from rfl) u hu
      have hops4 := Hops3.out.mod hmw4 (fun _ h => h.elim)
      have ho4 := Ho3.out.keep (p := (o, y)) hmw4 (fun _ _ h => h)
      have hC4 := hmw4.heap HC3.out (fun h => h)
      have hr4 := Hr3.out.new hmw4 (B := w.heap.size) hrl hG (by simp)
      have hm04 := Hm03.out.trans (hmw4.mono (by simp)) (fun _ _ h => h)
      have Hrz := Lib.hid hrz
      have Hone := Lib.hid hone
      have Hops4 := Lib.hid hops4
      have Ho4 := Lib.hid ho4
      have HC4 := Lib.hid hC4
      have Hr4 := Lib.hid hr4
      have Hm04 := Lib.hid hm04
      have Hw4 := Lib.hid hw4
      clear hrz hone hops4 ho4 hC4 hr4 hm04 hw4 Hops3 Ho3 HC3 Hr3 Hm03 hmw4 hgw4 hzw4
      go_wp2_with (first | ((with_reducible refine wpList_store_lit 119 (.tmp 3) (.tmp 8) ?_); refine ⟨rfl, opCells o y, rfl, rfl, by kernel_rfl, rfl, ?_⟩; rw [Hw3.out]) | ((with_reducible refine wpList_load_lit 119 (.tmp 3) ?_); refine ⟨w2.heap.size, 0, rfl, opCells o y, CellsAt.row Hgw3.out, by kernel_rfl, by kernel_rfl, ?_⟩) | ((with_reducible refine wpList_build_one_lit 66 (.tmp 13) ?_); refine ⟨119, 18, Tryz.underlying66, by kernel_rfl, by kernel_rfl, by decide, by decide, opCells o y, rfl, rfl, ?_⟩; rw [Hw4.out]) | ((with_reducible refine wpList_append_lit (.tmp 12) (.tmp 14) 66 ?_); refine ⟨rfl, 119, 18, 240, ops_T, .slice va l.length vc, l.length, opsCells l, rfl, Hops4.out.own, _, 1, opCells o y, rfl, Hrz.out, Hone.out, by omega, by unfold maxLen; omega, ?_⟩; intro ad cap5 w5 hA; have hC5 := hA.2.1.heap HC4.out (fun hi => by have := Hops4.out.vb C hi; omega); have k5 : w5.cell? ⟨C, 0, none⟩ = some (.slice va l.length vc) := cell_of hC5 rfl; have f5 : w5.frozen? ⟨C, 0, none⟩ = false := fr_of hC5; have HA := Lib.hid hA; have HC5 := Lib.hid hC5; clear hA hC5) | fail)
      go_roundg t2.length
      case measure =>
        have e := (readO_back Hgo.out).2 rfl
        have := opBytes_pos o
        rw [e, List.length_append]
        omega
      case rel =>
        have hmC : Mod (fun k => k = C) w5 (w5.setCell ⟨C, 0, none⟩ (.slice ad (l.length + 1) cap5)) := (Mod.refl (fun k => k = C) w5).setCell (fun _ => rfl) _
        have hops5 := Hops4.out.app (p := (o, y)) (Ho4.out.low (by omega)) (fun b hb hq => by have := Hvlt.out b hb; have := (Ho4.out.lt hq).1; omega) (by have := Hm04.out.size; omega) HA.out
        refine ⟨l ++ [(o, y)], t2, _, rfl, ?_, ?_, heap_set HC5.out, ?_, ?_⟩
        · rw [List.map_append]
          exact Hdec.out.snoc Hgo.out
        · have := hops5.mod hmC (fun b (hb : b = C) => by omega)
          exact this
        · exact (Hr4.out.new HA.out.2.1 (B := w.heap.size) hrl hG (fun k hk => Hops4.out.vb k hk)).mod hmC (fun e : r = C => hCr e.symm) (fun _ (e : G = C) => hCG e.symm)
        · exact (Hm04.out.upon HA.out.2.1 (fun b hb => .inr (Hops4.out.vb b hb))).upon hmC (fun b hb => .inl (.inr hb))
end Go.Proofs.YtloplmaekonenaaGreatDoor
namespace Go.Proofs.YtloplmaekonenaaGreatDoor
set_option maxRecDepth 20000
open Go.RowKit
theorem OpsAt.low {w : World} {B C : Nat} {v : Value} {l : List (PO × Lie)} (h : OpsAt w B v l) (hC : C ≤ B) : OpsAt w C v l :=
  ⟨h.own, fun b hb => Nat.le_trans hC (h.vb b hb), fun p hp => (h.ops p hp).low hC, h.apart⟩
def DecEnd (t : List UInt8) : Prop := readO t = none ∨ ∃ o t', readO t = some (o, false, t')
def DecGood (w wb : World) (bs : List UInt8) (k : Nat) (w2 : World) : Prop :=
  ∃ (l : List (PO × Lie)) (t : List UInt8) (v : Value), Dec bs (l.map Prod.fst) t ∧ DecEnd t ∧ OpsAt w2 (k + 1) v l ∧ w2.heap[w.heap.size]? = some (.cells #[v] 66 (0, 0)) ∧ Mod (fun j => j = w.heap.size) wb w2
set_option maxHeartbeats 2000000 in
theorem decode_at (w : World) (bv : Value) (G : Nat) (bs : List UInt8) (hb : BytesAt w G bv bs) (hG : G < w.heap.size) (hbl : bs.length ≤ 200000) :
    Calls Tryz.prog 40 #[bv] w fun e w' => ∃ l t v, e = .returned v ∧ Dec bs (l.map Prod.fst) t ∧ DecEnd t ∧ OpsAt w' w.heap.size v l ∧ Mod (fun _ => False) w w' := by
  have hmf : ∀ (fn : Fn) (first cap : Array Value) (w : World), (Instr.makeFunc fn first cap).run Tryz.prog w = .ok (.func fn first cap) w := fun _ _ _ _ => rfl
  obtain ⟨wb, hwb⟩ : ∃ wb : World, w.alloc (.cells #[.slice none 0 0] 66) = wb := ⟨_, rfl⟩
  have hmwb : Mod (fun _ => False) w wb := hwb ▸ (Mod.refl (fun _ => False) w).alloc _
  have hgwb := heap_alloc_new w (.cells #[.slice none 0 0] 66)
  rw [hwb] at hgwb
  have hzwb : wb.heap.size = w.heap.size + 1 := by rw [← hwb]; simp
  have hc := read_at bv G bs 72 #[.pointer (some ⟨w.heap.size, 0, none⟩)] wb (hb.mod hmwb (fun _ h => h)) (by omega) (fun args w => by simp [go_sem])
    (fun k _ w2 => DecGood w wb bs k w2)
    (fun r k w1 hm1 hk hr hkr hkl hrd hkh => (dec1_at w1 r G w.heap.size bs hrd (by have := hm1.size; omega) (hm1.heap hgwb (fun h => h)) (by omega) (by omega) hbl).mono fun e w2 h => by
      obtain ⟨l, t, v, h1, h2, h3, h4, h5⟩ := h
      have hgood : DecEnd t → DecGood w wb bs k w2 := fun he => ⟨l, t, v, h1, he, h2.low (by omega), h3, (hm1.mono (fun _ _ h => h.elim)).upon h4 (fun b hb => by omega)⟩
      refine ⟨h4.heap hkh (by omega), ?_⟩
      rcases h5 with ⟨h5, h6⟩ | ⟨o, t', h5, h6, h7⟩
      · exact .inl ⟨h6, hgood (.inl h5)⟩
      · exact .inr ⟨t', h6, h7, hgood (.inr ⟨o, t', h5⟩)⟩)
  have Hc := Lib.hid hc
  have Hmwb := Lib.hid hmwb
  have Hgwb := Lib.hid hgwb
  have Hwb := Lib.hid hwb
  clear hc hmwb hgwb hwb hb
  go_enter Tryz.func40, Tryz.ntmps40
  go_wp2_with fail
  rw [show w.alloc _ = wb from Hwb.out]
  refine Hc.out.mono ?_
  rintro e w3 ⟨ok, w2, k, rfl, ⟨l, t, v, h1, h2, h3, h4, h5⟩, hk, hm3⟩
  have h3' := h3.mod hm3 (fun b (hb : b = k) => by omega)
  have h4' := hm3.heap h4 (fun e : w.heap.size = k => by omega)
  have c0 : w3.cell? ⟨w.heap.size, 0, none⟩ = some v := cell_of h4' rfl
  have hm03 : Mod (fun _ => False) w w3 := (Hmwb.out.upon h5 (fun b (hb : b = w.heap.size) => .inr (by omega))).upon hm3 (fun b (hb : b = k) => .inr (by omega))
  have H1 := Lib.hid h1
  have H2 := Lib.hid h2
  have H3' := Lib.hid h3'
  have Hm03 := Lib.hid hm03
  clear h1 h2 h3' hm03 h3 h4 h4' h5 hm3
  go_wp2_with fail
  go_ret
  exact ⟨l, t, v, rfl, H1.out, H2.out, H3'.out.low (by omega), Hm03.out⟩
end Go.Proofs.YtloplmaekonenaaGreatDoor
namespace Go.Proofs.YtloplmaekonenaaGreatDoor
set_option maxRecDepth 20000
open Go.RowKit
theorem RdSl.takeN {w : World} {sz n c : Nat} {a : Option Addr} {xs : List Value} (h : RdSl w sz (.slice a n c) n xs) {m : Nat} (hm : m ≤ n) : RdSl w sz (.slice a m c) m (xs.take (m * sz)) := by
  obtain ⟨h1, a', c', e, h3, h4, h5⟩ := h
  cases e
  refine ⟨?_, a, c, rfl, Nat.le_trans hm h3, fun e => by have := h4 e; omega, fun b hb h0 => ?_⟩
  · rw [List.length_take, h1]
    exact Nat.min_eq_left (Nat.mul_le_mul_right _ hm)
  · obtain ⟨g, off, h6, h7⟩ := h5 b hb (by omega)
    refine ⟨g, off, h6, fun j u hu => h7 j u ?_⟩
    rw [List.getElem?_take] at hu
    split at hu
    · exact hu
    · cases hu
theorem opsCells_take : ∀ (l : List (PO × Lie)) (m : Nat), (opsCells l).take (m * 18) = opsCells (l.take m)
  | [], m => by simp [opsCells]
  | p :: l, 0 => by simp [opsCells]
  | p :: l, m + 1 => by
    have ih := opsCells_take l m
    unfold opsCells at ih ⊢
    rw [List.flatMap_cons, List.take_succ_cons, List.flatMap_cons, ← ih, show (m + 1) * 18 = (opCells p.1 p.2).length + m * 18 by rw [opCells_length]; omega, List.take_length_add_append]
theorem ops_take {w : World} {a : Option Addr} {c : Nat} {l : List (PO × Lie)} (h : RdSl w 18 (.slice a l.length c) l.length (opsCells l)) {m : Nat} (hm : m ≤ l.length) : RdSl w 18 (.slice a (l.take m).length c) (l.take m).length (opsCells (l.take m)) := by
  have h1 := h.takeN hm
  rw [opsCells_take] at h1
  rw [List.length_take, Nat.min_eq_left hm]
  exact h1
theorem own_at {w : World} {v : Value} {bs : List UInt8} (h : OwnSl w 5 1 v bs.length (u8s bs)) (h0 : 0 < w.heap.size) : ∃ G, BytesAt w G v bs ∧ G < w.heap.size := by
  by_cases hne : bs = []
  · subst hne
    rcases h.2 with ⟨rfl, -⟩ | ⟨g, off, cap, cur, hv, hg, hn, -⟩
    · exact ⟨0, ⟨none, 0, rfl, Nat.le_refl _, fun _ => rfl, fun b hb => by cases hb⟩, h0⟩
    · exact ⟨g, ⟨_, cap, hv, hn, (fun h => by cases h), fun b hb => ⟨off, (by cases hb; rfl), (Array.getElem?_eq_some_iff.1 hg).1, fun j u hu => by simp at hu⟩⟩, (Array.getElem?_eq_some_iff.1 hg).1⟩
  · obtain ⟨G, -, h1, h2⟩ := own_bytes h hne
    exact ⟨G, h1, h2⟩
end Go.Proofs.YtloplmaekonenaaGreatDoor
