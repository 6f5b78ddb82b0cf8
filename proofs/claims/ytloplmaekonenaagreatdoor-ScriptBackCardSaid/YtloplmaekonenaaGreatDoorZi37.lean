/-
  gazettelaw10.Light, gazettelaw18.Light and gazettelaw19.right: what they say of ops.
-/
import Derived.Test.YtloplmaekonenaaGreatDoorZi30
import Derived.Test.YtloplmaekonenaaGreatDoorZi33
import Derived.Test.YtloplmaekonenaaGreatDoorZi34
import Derived.Test.YtloplmaekonenaaGreatDoorZi7
import Derived.Test.YtloplmaekonenaaGreatDoorZi16
import Derived.Test.YtloplmaekonenaaGreatDoorZi36
namespace Go.Proofs.YtloplmaekonenaaGreatDoor
set_option maxRecDepth 20000
open Go.RowKit
structure OpArg (w : World) (p : PO × Lie) : Prop where
  r : (p.1.r.lies p.2.ra p.2.rc).ok w
  e : RdSl w 6 (.slice p.2.ea p.1.es.length p.2.ec) p.1.es.length (atts p.1.es)
  f : RdSl w 7 (.slice p.2.fa p.1.fs.length p.2.fc) p.1.fs.length (cnds p.1.fs)
  who : p.1.who.size ≤ maxLen ∧ p.1.r.who.size ≤ 1152921504606846976 ∧ p.1.r.name.size ≤ 1152921504606846976
  esc : p.1.esc.size ≤ maxLen ∧ p.1.es.length ≤ maxLen
  fsc : p.1.fsc.size ≤ maxLen ∧ p.1.fs.length ≤ maxLen
  es : ∀ a ∈ p.1.es, a.name.size ≤ maxLen ∧ a.v.text.size ≤ maxLen ∧ (-9223372036854775808 ≤ a.v.int ∧ a.v.int ≤ 9223372036854775807) ∧ a.v.num < 2 ^ 64
  fs : ∀ c ∈ p.1.fs, c.name.size ≤ maxLen ∧ (-9223372036854775808 ≤ c.v.int ∧ c.v.int ≤ 9223372036854775807) ∧ c.v.num < 2 ^ 64
  rs : ∀ c ∈ p.1.r.cs, c.name.size ≤ maxLen ∧ (-9223372036854775808 ≤ c.v.int ∧ c.v.int ≤ 9223372036854775807) ∧ c.v.num < 2 ^ 64
theorem OpArg.mod {w w' : World} {p : PO × Lie} (h : OpArg w p) (hm : Mod (fun _ => False) w w') : OpArg w' p :=
  ⟨h.r.mod hm, h.e.mod hm (fun _ _ h => h), h.f.mod hm (fun _ _ h => h), h.who, h.esc, h.fsc, h.es, h.fs, h.rs⟩
structure OpLight (o : PO) : Prop where
  who : o.who.size ≤ 60
  r : o.r.who.size + o.r.name.size ≤ 200
  esc : o.esc.size ≤ 60
  es : o.es.length ≤ 12
def OpRight (o : PO) : Prop := filRight o.fsc o.fs = true ∧ filRight o.r.sc o.r.cs = true
def Light10Post (w : World) (l : List Ru) (e : Ending) (w' : World) : Prop := ∃ b, e = .returned (.bool b) ∧ (b = true → ∀ x ∈ l, wrap64 ((x.who.size : Int) + x.name.size) ≤ 200) ∧ Mod (fun _ => False) w w'
set_option maxHeartbeats 2000000 in
theorem light10b_at (w : World) (v : Value) (l : List Ru) (hv : RuSl w v l) (hll : l.length ≤ 9223372036854775807) :
    Calls Tryz.prog 105 #[v] w (Light10Post w l) := by
  obtain ⟨a, cap, rfl, hcap⟩ : ∃ a c, v = .slice a l.length c ∧ l.length ≤ c := by obtain ⟨-, a, c, h, h2, -⟩ := hv.rd; exact ⟨a, c, h, h2⟩
  have hll' : (l.length : Int) ≤ 9223372036854775807 := by omega
  have hcap' : (l.length : Int) ≤ cap := by omega
  have Hv := Lib.hid hv
  clear hv hll
  go_enter Tryz.func105, Tryz.ntmps105
  go_wp2_with fail
  go_loopw [7] (fun i wr => ∃ j : Nat, i = .int .i64 j ∧ j ≤ l.length ∧ (∀ x ∈ l.take j, wrap64 ((x.who.size : Int) + x.name.size) ≤ 200) ∧ Mod (fun _ => False) w wr) (fun i _ => l.length - (intOf i).toNat)
  case atStart => exact ⟨0, rfl, Nat.zero_le _, fun x h => by simp at h, Mod.refl _ _⟩
  case round =>
    obtain ⟨j, rfl, hj, hall, hmr⟩ := hrel
    by_cases hlt : j < l.length
    · have hlt' : (j : Int) < l.length := by omega
      obtain ⟨x, hxj⟩ : ∃ x, l[j]? = some x := ⟨_, List.getElem?_eq_getElem hlt⟩
      have hok := (Hv.out.mod hmr).ok x (List.mem_of_getElem? hxj)
      obtain ⟨g, off, rfl, hf⟩ : ∃ g off, a = some ⟨g, off, none⟩ ∧ CellsAt wr g (off + j * 8) x.cells := rd_rule (Hv.out.mod hmr) hxj
      obtain ⟨wz, hwz⟩ : ∃ wz : World, wr.alloc (.cells x.cells.toArray 117) = wz := ⟨_, rfl⟩
      have hmwz : Mod (fun _ => False) wr wz := hwz ▸ (Mod.refl (fun _ => False) wr).alloc _
      have hgwz := heap_alloc_new wr (.cells x.cells.toArray 117)
      rw [hwz] at hgwz
      have hzwz : wz.heap.size = wr.heap.size + 1 := by rw [← hwz]; simp
      have hmz := hmr.trans hmwz (fun _ _ h => h)
      have b2 : wz.cell? ⟨wr.heap.size, 2, none⟩ = some (.string x.who) := cell_of hgwz rfl
      have b4 : wz.cell? ⟨wr.heap.size, 4, none⟩ = some (.string x.sc) := cell_of hgwz rfl
      have b5 : wz.cell? ⟨wr.heap.size, 5, none⟩ = some (.slice x.ca x.cs.length x.cc) := cell_of hgwz rfl
      have b6 : wz.cell? ⟨wr.heap.size, 6, none⟩ = some (.string x.name) := cell_of hgwz rfl
      have hl7 := light07_at wz x.sc x.cv x.cs (hok.mod hmwz).rd (by have := hok.len; omega)
      obtain ⟨A, hA⟩ : ∃ A : Int, wrap64 ((x.who.size : Int) + x.name.size) = A := ⟨_, rfl⟩
      have hnx : A ≤ 200 → ∀ y ∈ l.take (j + 1), wrap64 ((y.who.size : Int) + y.name.size) ≤ 200 := fun hq y hy => by
        rw [List.take_add_one, hxj] at hy
        rcases List.mem_append.1 hy with hy | hy
        · exact hall y hy
        · obtain rfl : y = x := by simpa using hy
          rw [hA]; exact hq
      have Hmr := Lib.hid hmr
      have Hxj := Lib.hid hxj
      have Hf := Lib.hid hf
      have Hwz := Lib.hid hwz
      have Hmwz := Lib.hid hmwz
      have Hgwz := Lib.hid hgwz
      have Hmz := Lib.hid hmz
      have Hl7 := Lib.hid hl7
      have Hnx := Lib.hid hnx
      clear hmr hxj hf hwz hmwz hgwz hmz hl7 hnx hzwz hok hall
      by_cases hq : A ≤ 200
      · have hnx := Hnx.out hq
        have Hnx := Lib.hid hnx
        clear hnx
        go_wp2_with (first | ((with_reducible refine wpList_load_lit 117 (.tmp 9) ?_); refine ⟨g, off + j * 8, rfl, x.cells, Hf.out, by kernel_rfl, by kernel_rfl, ?_⟩) | ((with_reducible refine wpList_store_lit 117 (.tmp 4) (.tmp 10) ?_); refine ⟨rfl, x.cells, rfl, rfl, by kernel_rfl, rfl, ?_⟩; rw [Hwz.out]) | fail)
        refine Hl7.out.mono ?_
        rintro e w3 ⟨b, rfl, hm3⟩
        have Hm3 := Lib.hid (Hmz.out.trans hm3 (fun _ _ h => h))
        clear hm3 b2 b4 b5 b6
        cases b with
        | true =>
          go_wp2_with fail
          go_roundw
          case rel => exact ⟨j + 1, by go_num, hlt, Hnx.out, Hm3.out⟩
          case measure => simp [intOf]; omega
        | false =>
          go_wp2
          go_ret
          exact ⟨false, rfl, (fun h => by cases h), Hm3.out⟩
      · have hq' : 200 < A := by omega
        clear hq
        go_wp2_with (first | ((with_reducible refine wpList_load_lit 117 (.tmp 9) ?_); refine ⟨g, off + j * 8, rfl, x.cells, Hf.out, by kernel_rfl, by kernel_rfl, ?_⟩) | ((with_reducible refine wpList_store_lit 117 (.tmp 4) (.tmp 10) ?_); refine ⟨rfl, x.cells, rfl, rfl, by kernel_rfl, rfl, ?_⟩; rw [Hwz.out]) | fail)
        go_ret
        exact ⟨false, rfl, (fun h => by cases h), Hmz.out⟩
    · obtain rfl : j = l.length := by omega
      rw [List.take_length] at hall
      have Hm := Lib.hid hmr
      have Hall := Lib.hid hall
      clear hmr hall
      go_wp2
      go_ret
      exact ⟨_, rfl, fun _ => Hall.out, Hm.out⟩
def L18i (w4 : World) (n : Nat) (iv : Value) (wr : World) : Prop := ∃ i2 : Nat, iv = .int .i64 i2 ∧ i2 ≤ n ∧ Mod (fun _ => False) w4 wr
def Light18Post (w : World) (l : List (PO × Lie)) (e : Ending) (w' : World) : Prop := ∃ b, e = .returned (.bool b) ∧ (b = true → ∀ p ∈ l, OpLight p.1) ∧ Mod (fun _ => False) w w'
theorem ru_one (w : World) (p : PO × Lie) (hw : OpArg w p) : RuSl (w.alloc (.cells (p.1.r.lies p.2.ra p.2.rc).cells.toArray 117)) (.slice (some ⟨w.heap.size, 0, none⟩) 1 1) [p.1.r.lies p.2.ra p.2.rc] :=
  ⟨by
    have h := RdSl.one w (p.1.r.lies p.2.ra p.2.rc).cells 117 (sz := 8) rfl
    rw [show rus [p.1.r.lies p.2.ra p.2.rc] = (p.1.r.lies p.2.ra p.2.rc).cells by simp [rus]]
    exact h, fun r hr => by
    obtain rfl := List.mem_singleton.1 hr
    exact (hw.mod ((Mod.refl (fun _ => False) w).alloc _)).r⟩
set_option maxRecDepth 20000 in
set_option maxHeartbeats 8000000 in
theorem light18_at (w : World) (v : Value) (l : List (PO × Lie)) (hv : RdSl w 18 v l.length (opsCells l)) (hop : ∀ p ∈ l, OpArg w p) (hll : l.length ≤ 9223372036854775807) :
    Calls Tryz.prog 67 #[v] w (Light18Post w l) := by
  obtain ⟨a, cap, rfl, hcap⟩ : ∃ a c, v = .slice a l.length c ∧ l.length ≤ c := by obtain ⟨-, a, c, h, h2, -⟩ := hv; exact ⟨a, c, h, h2⟩
  have hll' : (l.length : Int) ≤ 9223372036854775807 := by omega
  have hcap' : (l.length : Int) ≤ cap := by omega
  have Hv := Lib.hid hv
  have Hop := Lib.hid hop
  clear hv hop hll
  go_enter Tryz.func67, Tryz.ntmps67
  go_wp2_with fail
  go_loopw [9] (fun i wr => ∃ j : Nat, i = .int .i64 j ∧ j ≤ l.length ∧ (∀ p ∈ l.take j, OpLight p.1) ∧ Mod (fun _ => False) w wr) (fun i _ => l.length - (intOf i).toNat)
  case atStart => exact ⟨0, rfl, Nat.zero_le _, fun x h => by simp at h, Mod.refl _ _⟩
  case round =>
    obtain ⟨j, rfl, hj, hall, hmr⟩ := hrel
    by_cases hlt : j < l.length
    · have hlt' : (j : Int) < l.length := by omega
      obtain ⟨⟨o, ⟨ra, rc, ea, ec, fa, fc⟩⟩, hxj⟩ : ∃ x, l[j]? = some x := ⟨_, List.getElem?_eq_getElem hlt⟩
      have hx := (Hop.out _ (List.mem_of_getElem? hxj)).mod hmr
      obtain ⟨g, off, rfl, hf⟩ : ∃ g off, a = some ⟨g, off, none⟩ ∧ CellsAt wr g (off + j * 18) (opCells o ⟨ra, rc, ea, ec, fa, fc⟩) := rd_op (Hv.out.mod hmr (fun _ _ h => h)) hxj
      obtain ⟨wz, hwz⟩ : ∃ wz : World, wr.alloc (.cells (opCells o ⟨ra, rc, ea, ec, fa, fc⟩).toArray 119) = wz := ⟨_, rfl⟩
      have hmwz : Mod (fun _ => False) wr wz := hwz ▸ (Mod.refl (fun _ => False) wr).alloc _
      have hgwz := heap_alloc_new wr (.cells (opCells o ⟨ra, rc, ea, ec, fa, fc⟩).toArray 119)
      rw [hwz] at hgwz
      have hzwz : wz.heap.size = wr.heap.size + 1 := by rw [← hwz]; simp
      have hmz := hmr.trans hmwz (fun _ _ h => h)
      have hxz := hx.mod hmwz
      have hw60 : o.who.size ≤ 9223372036854775807 := by have := hx.who.1; unfold maxLen at this; omega
      have b2 : wz.cell? ⟨wr.heap.size, 2, none⟩ = some (.string o.who) := cell_of hgwz rfl
      have hc3 : CellsAt wz wr.heap.size 3 (o.r.lies ra rc).cells := fun i u hu => by
        have h1 := CellsAt.row hgwz (3 + i) u
        rw [Nat.zero_add] at h1
        refine h1 ?_
        unfold opCells
        rw [List.append_assoc, List.getElem?_append_right (by simp)]
        have h2 : i < 8 := (List.getElem?_eq_some_iff.1 hu).1
        rw [show 3 + i - [Value.int .i64 o.kind, .int .i64 o.ten, .string o.who].length = i by simp, List.getElem?_append_left h2]
        exact hu
      obtain ⟨wy, hwy⟩ : ∃ wy : World, wz.alloc (.cells (o.r.lies ra rc).cells.toArray 117) = wy := ⟨_, rfl⟩
      have hmwy : Mod (fun _ => False) wz wy := hwy ▸ (Mod.refl (fun _ => False) wz).alloc _
      have hgwy := heap_alloc_new wz (.cells (o.r.lies ra rc).cells.toArray 117)
      rw [hwy] at hgwy
      have hzwy : wy.heap.size = wz.heap.size + 1 := by rw [← hwy]; simp
      have hmy := hmz.trans hmwy (fun _ _ h => h)
      have hru : RuSl wy (.slice (some ⟨wz.heap.size, 0, none⟩) 1 1) [o.r.lies ra rc] := hwy ▸ ru_one wz (o, ⟨ra, rc, ea, ec, fa, fc⟩) hxz
      have hl10 := light10b_at wy _ _ hru (by show (1 : Nat) ≤ _; decide)
      have hl7 := fun w' (h : Mod (fun _ => False) wy w') => light07_at w' o.fsc (.slice fa o.fs.length fc) o.fs ((hxz.mod hmwy).f.mod h (fun _ _ h => h)) (by have := hx.fsc.2; unfold maxLen at this; exact this)
      have hfc : ∀ w', Mod (fun _ => False) wz w' → w'.heap[wr.heap.size]? = some (.cells (opCells o ⟨ra, rc, ea, ec, fa, fc⟩).toArray 119 (0, 0)) := fun w' h => h.heap hgwz (fun h => h)
      have he12 : o.es.length ≤ 9223372036854775807 := by have := hx.esc.2; unfold maxLen at this; exact this
      have he60 : o.esc.size ≤ 9223372036854775807 := by have := hx.esc.1; unfold maxLen at this; exact this
      have hrw : o.r.who.size ≤ 1152921504606846976 ∧ o.r.name.size ≤ 1152921504606846976 := hx.who.2
      have Hmr := Lib.hid hmr
      have Hxj := Lib.hid hxj
      have Hx := Lib.hid hx
      have Hf := Lib.hid hf
      have Hwz := Lib.hid hwz
      have Hmwz := Lib.hid hmwz
      have Hgwz := Lib.hid hgwz
      have Hmz := Lib.hid hmz
      have Hxz := Lib.hid hxz
      have Hc3 := Lib.hid hc3
      have Hwy := Lib.hid hwy
      have Hmwy := Lib.hid hmwy
      have Hgwy := Lib.hid hgwy
      have Hmy := Lib.hid hmy
      have Hru := Lib.hid hru
      have Hl10 := Lib.hid hl10
      have Hl7 := Lib.hid hl7
      have Hfc := Lib.hid hfc
      have Hall := Lib.hid hall
      clear hmr hxj hx hf hwz hmwz hgwz hmz hxz hc3 hwy hmwy hgwy hmy hru hl10 hl7 hfc hall hzwz hzwy
      by_cases z1 : 60 < o.who.size
      · have z1' : (60 : Int) < ((o.who.size : Nat) : Int) := by omega
        go_wp2_with (first | ((with_reducible refine wpList_load_lit 119 (.tmp 11) ?_); refine ⟨g, off + j * 18, rfl, opCells o ⟨ra, rc, ea, ec, fa, fc⟩, Hf.out, by kernel_rfl, by kernel_rfl, ?_⟩) | ((with_reducible refine wpList_store_lit 119 (.tmp 4) (.tmp 12) ?_); refine ⟨rfl, opCells o ⟨ra, rc, ea, ec, fa, fc⟩, rfl, rfl, by kernel_rfl, rfl, ?_⟩; rw [Hwz.out]) | fail)
        go_ret
        exact ⟨false, rfl, (fun h => by cases h), Hmz.out⟩
      have z1' : ((o.who.size : Nat) : Int) ≤ 60 := by omega
      have zd1 : decide ((60 : Int) < ((o.who.size : Nat) : Int)) = false := decide_eq_false (by omega)
      go_wp2_with (first | ((with_reducible refine wpList_load_lit 119 (.tmp 11) ?_); refine ⟨g, off + j * 18, rfl, opCells o ⟨ra, rc, ea, ec, fa, fc⟩, Hf.out, by kernel_rfl, by kernel_rfl, ?_⟩) | ((with_reducible refine wpList_store_lit 119 (.tmp 4) (.tmp 12) ?_); refine ⟨rfl, opCells o ⟨ra, rc, ea, ec, fa, fc⟩, rfl, rfl, by kernel_rfl, rfl, ?_⟩; rw [Hwz.out]) | ((with_reducible refine wpList_yes_load 117 (.tmp 18) ?_ ?_); rfl) | ((with_reducible refine wpList_yes_build 157 (.tmp 19) ?_ ?_); rfl) | ((with_reducible refine wpList_load_lit 117 (.tmp 18) ?_); refine ⟨wr.heap.size, 3, rfl, (o.r.lies ra rc).cells, Hc3.out, by kernel_rfl, by kernel_rfl, ?_⟩) | ((with_reducible refine wpList_build_one_lit 157 (.tmp 19) ?_); refine ⟨117, 8, Tryz.underlying157, by kernel_rfl, by kernel_rfl, by decide, by decide, (o.r.lies ra rc).cells, rfl, rfl, ?_⟩; rw [Hwy.out]) | fail)
      refine Hl10.out.mono ?_
      rintro e w3 ⟨b, rfl, hb, hm3⟩
      have hmz3 := Hmwy.out.trans hm3 (fun _ _ h => h)
      have hm03 := Hmz.out.trans hmz3 (fun _ _ h => h)
      have hg3 := Hfc.out w3 hmz3
      have f0 : w3.cell? ⟨wr.heap.size, 13, none⟩ = some (.string o.fsc) := cell_of hg3 rfl
      have f1 : w3.cell? ⟨wr.heap.size, 14, none⟩ = some (.slice fa o.fs.length fc) := cell_of hg3 rfl
      have hl73 := Hl7.out w3 hm3
      cases b with
      | false =>
        have Hb := Lib.hid hb
        have Hm3 := Lib.hid hm3
        have Hmz3 := Lib.hid hmz3
        have Hm03 := Lib.hid hm03
        have Hg3 := Lib.hid hg3
        have Hl73 := Lib.hid hl73
        clear hb hm3 hmz3 hm03 hg3 hl73
        go_wp2_with fail
        go_ret
        exact ⟨false, rfl, (fun h => by cases h), Hm03.out⟩
      | true =>
        have hrr : o.r.who.size + o.r.name.size ≤ 200 := by
          have h1 := hb rfl _ (List.mem_singleton.2 rfl)
          have h2 : wrap64 ((o.r.who.size : Int) + o.r.name.size) ≤ 200 := h1
          unfold wrap64 at h2
          omega
        have Hb := Lib.hid hb
        have Hm3 := Lib.hid hm3
        have Hmz3 := Lib.hid hmz3
        have Hm03 := Lib.hid hm03
        have Hg3 := Lib.hid hg3
        have Hl73 := Lib.hid hl73
        clear hb hm3 hmz3 hm03 hg3 hl73
        go_wp2_with fail
        refine Hl73.out.mono ?_
        rintro e w4 ⟨b2, rfl, hm4⟩
        have hmz4 := Hmz3.out.trans hm4 (fun _ _ h => h)
        have hm04 := Hmz.out.trans hmz4 (fun _ _ h => h)
        have hg4 := Hfc.out w4 hmz4
        have e0 : w4.cell? ⟨wr.heap.size, 11, none⟩ = some (.string o.esc) := cell_of hg4 rfl
        have e1 : w4.cell? ⟨wr.heap.size, 12, none⟩ = some (.slice ea o.es.length ec) := cell_of hg4 rfl
        have hev := (Hxz.out.mod hmz4).e
        cases b2 with
        | false =>
          have Hm4 := Lib.hid hm4
          have Hmz4 := Lib.hid hmz4
          have Hm04 := Lib.hid hm04
          have Hg4 := Lib.hid hg4
          have Hev := Lib.hid hev
          clear hm4 hmz4 hm04 hg4 hev
          go_wp2_with fail
          go_ret
          exact ⟨false, rfl, (fun h => by cases h), Hm04.out⟩
        | true =>
          by_cases z3 : 60 < o.esc.size
          · have z3' : (60 : Int) < ((o.esc.size : Nat) : Int) := by omega
            have Hm4 := Lib.hid hm4
            have Hmz4 := Lib.hid hmz4
            have Hm04 := Lib.hid hm04
            have Hg4 := Lib.hid hg4
            have Hev := Lib.hid hev
            clear hm4 hmz4 hm04 hg4 hev
            go_wp2_with fail
            go_ret
            exact ⟨false, rfl, (fun h => by cases h), Hm04.out⟩
          have zd3 : decide ((60 : Int) < ((o.esc.size : Nat) : Int)) = false := decide_eq_false (by omega)
          have z3' : ((o.esc.size : Nat) : Int) ≤ 60 := by omega
          by_cases z4 : 12 < o.es.length
          · have z4' : (12 : Int) < ((o.es.length : Nat) : Int) := by omega
            have Hm4 := Lib.hid hm4
            have Hmz4 := Lib.hid hmz4
            have Hm04 := Lib.hid hm04
            have Hg4 := Lib.hid hg4
            have Hev := Lib.hid hev
            clear hm4 hmz4 hm04 hg4 hev
            go_wp2_with fail
            go_ret
            exact ⟨false, rfl, (fun h => by cases h), Hm04.out⟩
          have zd4 : decide ((12 : Int) < ((o.es.length : Nat) : Int)) = false := decide_eq_false (by omega)
          have z4' : ((o.es.length : Nat) : Int) ≤ 12 := by omega
          have hol : OpLight o := ⟨by omega, hrr, by omega, by omega⟩
          have hnx : ∀ p ∈ l.take (j + 1), OpLight p.1 := fun p hp => by
            rw [List.take_add_one, Hxj.out] at hp
            rcases List.mem_append.1 hp with hp | hp
            · exact Hall.out p hp
            · obtain rfl : p = (o, ⟨ra, rc, ea, ec, fa, fc⟩) := by simpa using hp
              exact hol
          have hecap : (o.es.length : Int) ≤ ec := by
            obtain ⟨-, a', c', h1, h2, -⟩ := hev
            injection h1 with _ _ h3
            have h4 : o.es.length ≤ ec := Nat.le_trans h2 (Nat.le_of_eq h3.symm)
            omega
          have Hm4 := Lib.hid hm4
          have Hmz4 := Lib.hid hmz4
          have Hm04 := Lib.hid hm04
          have Hg4 := Lib.hid hg4
          have Hev := Lib.hid hev
          have Hol := Lib.hid hol
          have Hnx := Lib.hid hnx
          clear hm4 hmz4 hm04 hg4 hev hol hnx
          go_wp2_with fail
          go_loopw [48] (fun i wr => L18i w4 o.es.length i wr) (fun i _ => o.es.length - (intOf i).toNat)
          case atStart => exact ⟨0, rfl, Nat.zero_le _, Mod.refl _ _⟩
          case round =>
            revert wr
            intro wi hrel
            obtain ⟨i2, rfl, hi2, hmi⟩ := hrel
            by_cases hil : i2 < o.es.length
            · have hil' : (i2 : Int) < o.es.length := by omega
              obtain ⟨q, hq⟩ : ∃ q, o.es[i2]? = some q := ⟨_, List.getElem?_eq_getElem hil⟩
              obtain ⟨g2, off2, rfl, hcq⟩ : ∃ g off, ea = some ⟨g, off, none⟩ ∧ CellsAt wi g (off + i2 * 6) q.cells := rd_att (Hev.out.mod hmi (fun _ _ h => h)) hq
              obtain ⟨wk, hwk⟩ : ∃ wk : World, wi.alloc (.cells q.cells.toArray 90) = wk := ⟨_, rfl⟩
              have hmwk : Mod (fun _ => False) wi wk := hwk ▸ (Mod.refl (fun _ => False) wi).alloc _
              have hgwk := heap_alloc_new wi (.cells q.cells.toArray 90)
              rw [hwk] at hgwk
              have hzwk : wk.heap.size = wi.heap.size + 1 := by rw [← hwk]; simp
              have hmk := hmi.trans hmwk (fun _ _ h => h)
              have k0 : wk.cell? ⟨wi.heap.size, 0, none⟩ = some (.string q.name) := cell_of hgwk rfl
              have k4 : wk.cell? ⟨wi.heap.size, 4, none⟩ = some (.string q.v.text) := cell_of hgwk rfl
              obtain ⟨A2, hA2⟩ : ∃ A2 : Int, wrap64 ((q.name.size : Int) + q.v.text.size) = A2 := ⟨_, rfl⟩
              have Hmi := Lib.hid hmi
              have Hq := Lib.hid hq
              have Hcq := Lib.hid hcq
              have Hwk := Lib.hid hwk
              have Hmwk := Lib.hid hmwk
              have Hgwk := Lib.hid hgwk
              have Hmk := Lib.hid hmk
              clear hmi hq hcq hwk hmwk hgwk hmk hzwk
              by_cases hz : A2 ≤ 200
              · go_wp2_with (first | ((with_reducible refine wpList_load_lit 90 (.tmp 50) ?_); refine ⟨g2, off2 + i2 * 6, rfl, q.cells, Hcq.out, by kernel_rfl, by kernel_rfl, ?_⟩) | ((with_reducible refine wpList_store_lit 90 (.tmp 6) (.tmp 51) ?_); refine ⟨rfl, q.cells, rfl, rfl, by kernel_rfl, rfl, ?_⟩; rw [Hwk.out]) | fail)
                go_roundw
                case rel =>
                  exact ⟨i2 + 1, by go_num, hil, Hmk.out⟩
                case measure => simp [intOf]; omega
              · have hz' : 200 < A2 := by omega
                clear hz
                go_wp2_with (first | ((with_reducible refine wpList_load_lit 90 (.tmp 50) ?_); refine ⟨g2, off2 + i2 * 6, rfl, q.cells, Hcq.out, by kernel_rfl, by kernel_rfl, ?_⟩) | ((with_reducible refine wpList_store_lit 90 (.tmp 6) (.tmp 51) ?_); refine ⟨rfl, q.cells, rfl, rfl, by kernel_rfl, rfl, ?_⟩; rw [Hwk.out]) | fail)
                go_ret
                exact ⟨false, rfl, (fun h => by cases h), Hm04.out.trans Hmk.out (fun _ _ h => h)⟩
            · obtain rfl : i2 = o.es.length := by omega
              have hm0i := Hm04.out.trans hmi (fun _ _ h => h)
              have Hmi := Lib.hid hmi
              have Hm0i := Lib.hid hm0i
              clear hmi hm0i
              go_wp2_with fail
              go_roundw
              case rel => exact ⟨j + 1, by go_num, hlt, Hnx.out, Hm0i.out⟩
              case measure => simp [intOf]; omega
    · obtain rfl : j = l.length := by omega
      rw [List.take_length] at hall
      have Hm := Lib.hid hmr
      have Hall := Lib.hid hall
      clear hmr hall
      go_wp2
      go_ret
      exact ⟨_, rfl, fun _ => Hall.out, Hm.out⟩
end Go.Proofs.YtloplmaekonenaaGreatDoor
