/-
  The law's Event: one that may be, of attributes.
  What is right is small; the names of an event are unlike.
  Few rules, and short ones.
  gazettelaw13.IndexGoes.
  Package table: All.
-/
import Derived.Test.YtloplmaekonenaaGreatDoorZg33
import Derived.Test.YtloplmaekonenaaGreatDoorZg15
import Derived.Test.YtloplmaekonenaaGreatDoorZg27
import Derived.Deep.DeepCutAuto
import Derived.Deep.CutBlock
import Derived.Test.YtloplmaekonenaaGreatDoorZg31
import Derived.Test.YtloplmaekonenaaGreatDoorZg18
import Derived.Test.YtloplmaekonenaaGreatDoorZg20
namespace Go.Proofs.YtloplmaekonenaaGreatDoor
set_option maxRecDepth 20000
open Go.RowKit

def ev7S (s : ByteArray) : ByteArray := if scRight s = true then s else ⟨#[]⟩
def ev7L (l : List Att) : List Att := ((newL l).filter fun a => evRight [a]).take 8
theorem take_filter_snoc {α : Type} (p : α → Bool) {l : List α} {j : Nat} {x : α} (h : l[j]? = some x) : ((l.take (j + 1)).filter p).take 8 = ((l.take j).filter p).take 8 ++ (if (decide ((((l.take j).filter p).take 8).length < 8) && p x) = true then [x] else []) := by
  rw [filter_take p h]
  generalize (l.take j).filter p = q
  rw [List.take_append]
  by_cases hp : p x = true
  · rw [if_pos hp, hp, Bool.and_true]
    by_cases hq : q.length < 8
    · rw [if_pos (by rw [List.length_take]; exact decide_eq_true (by omega)), List.take_of_length_le (by omega), List.take_of_length_le (by simp; omega)]
    · rw [if_neg (by rw [List.length_take]; simp; omega), show 8 - q.length = 0 by omega, List.take_zero]
  · have hp : p x = false := by simpa using hp
    rw [hp, Bool.and_false]
    simp
theorem ev7L_le (l : List Att) : (ev7L l).length ≤ 8 := by unfold ev7L; rw [List.length_take]; omega
theorem rises_pair {l : List Att} : rises l ↔ l.Pairwise (fun x y => Op.bytesLess x.name.data.toList y.name.data.toList = true) := by
  rw [List.pairwise_iff_getElem]
  constructor
  · intro h i j hi hj hij
    exact h i j _ _ hij (List.getElem?_eq_getElem hi) (List.getElem?_eq_getElem hj)
  · intro h i j x y hij hx hy
    obtain ⟨h1, rfl⟩ := List.getElem?_eq_some_iff.1 hx
    obtain ⟨h2, rfl⟩ := List.getElem?_eq_some_iff.1 hy
    exact h i j h1 h2 hij
theorem rises.sub {l m : List Att} (h : rises l) (hs : m.Sublist l) : rises m := rises_pair.2 ((rises_pair.1 h).sublist hs)
theorem ev7L_rises (l : List Att) : rises (ev7L l) := (newL_rises l).sub ((List.take_sublist _ _).trans List.filter_sublist)

set_option maxRecDepth 20000 in
set_option maxHeartbeats 8000000 in
theorem ev7_at (w : World) (s : ByteArray) (lv : Value) (l : List Att) (hv : RdSl w 6 lv l.length (atts l)) (hll : l.length ≤ 1000) (hs : s.size ≤ 9223372036854775807) (hsz : ∀ x ∈ newL l, x.name.size ≤ 9223372036854775807) :
    Calls Tryz.prog 17 #[.string s, lv] w fun e w' => ∃ av, e = .returned (.agg #[.string (ev7S s), av]) ∧ OwnSl w' 90 6 av (ev7L l).length (atts (ev7L l)) ∧
      (∀ b, av.ownBlock = some b → w.heap.size ≤ b) ∧ Mod (fun _ => False) w w' := by
  obtain ⟨a, cap, rfl⟩ : ∃ a c, lv = .slice a l.length c := by obtain ⟨-, a, c, h, -⟩ := hv; exact ⟨a, c, h⟩
  obtain ⟨wa, hwa⟩ : ∃ wa : World, w.alloc (.cells #[.string ⟨#[]⟩, .slice none 0 0] 32) = wa := ⟨_, rfl⟩
  have hmwa : Mod (fun _ => False) w wa := hwa ▸ (Mod.refl (fun _ => False) w).alloc _
  have hgwa := heap_alloc_new w (.cells #[.string ⟨#[]⟩, .slice none 0 0] 32)
  rw [hwa] at hgwa
  have hzwa : wa.heap.size = w.heap.size + 1 := by rw [← hwa]; simp
  have hsr := scope_right s (by omega) wa
  have hva := hv.mod hmwa (fun _ _ h => h)
  obtain ⟨sc, hsc⟩ : ∃ q, ev7S s = q := ⟨_, rfl⟩
  rw [hsc]
  have Hwa := Lib.hid hwa
  have Hmwa := Lib.hid hmwa
  have Hgwa := Lib.hid hgwa
  have Hsr := Lib.hid hsr
  have Hva := Lib.hid hva
  have Hsz := Lib.hid hsz
  clear hwa hmwa hgwa hsr hva hsz hv hs
  go_enter Tryz.func17, Tryz.ntmps17
  go_wp2_with (first | (rw [show w.alloc _ = wa from Hwa.out]) | fail)
  refine Hsr.out.mono ?_
  rintro e w1 ⟨rfl, hm1⟩
  have hg1 := hm1.heap Hgwa.out (fun h => h)
  have hm01 := Hmwa.out.trans hm1 (fun _ _ h => h)
  have hv1 := Hva.out.mod hm1 (fun _ _ h => h)
  have hnw := new_at w1 sc (.slice a l.length cap) l hv1 hll
  have Hg1 := Lib.hid hg1
  have Hm01 := Lib.hid hm01
  have Hnw := Lib.hid hnw
  clear hg1 hm01 hnw hm1 hv1 Hsr Hva Hmwa Hgwa Hwa
  go_upto_if 11 with fail
  go_cut [0] (fun s0 wx => s0 = .string sc ∧ wx = w1)
  case first =>
    cases hb : scRight s with
    | true =>
      have e : sc = s := by rw [← hsc]; unfold ev7S; rw [if_pos hb]
      have E := Lib.hid e
      clear hsc hb e
      go_wp2_with fail
      go_meet
      case rel => exact ⟨by rw [E.out], rfl⟩
    | false =>
      have e : sc = ⟨#[]⟩ := by rw [← hsc]; unfold ev7S; rw [if_neg (by rw [hb]; decide)]
      have E := Lib.hid e
      clear hsc hb e
      go_wp2_with fail
      go_meet
      case rel => exact ⟨by rw [E.out], rfl⟩
  case rest =>
    obtain ⟨rfl, rfl⟩ := hcut
    obtain ⟨wk, rfl⟩ : ∃ wk : World, wk = wc := ⟨_, rfl⟩
    clear hsc
    go_wp2_with fail
    refine Hnw.out.mono ?_
    rintro e w2 ⟨av, rfl, hown, hfr, hm2⟩
    have hm02 := Hm01.out.trans hm2 (fun _ _ h => h)
    have hg2 := hm2.heap Hg1.out (fun h => h)
    have hrr := newL_rises l
    have hlen := newL_length l
    have hev := ev7L_le l
    obtain ⟨L, hL⟩ : ∃ L, newL l = L := ⟨_, rfl⟩
    rw [hL] at hown hrr hlen
    obtain ⟨aa, ac, rfl, hac⟩ := hown.shape
    have hLl : (L.length : Int) ≤ 1000 := by omega
    obtain ⟨wb, hwb⟩ : ∃ wb : World, w2.alloc (.cells #[.string sc, .slice aa L.length ac] 32) = wb := ⟨_, rfl⟩
    have hmwb : Mod (fun _ => False) w2 wb := hwb ▸ (Mod.refl (fun _ => False) w2).alloc _
    have hgwb := heap_alloc_new w2 (.cells #[.string sc, .slice aa L.length ac] 32)
    rw [hwb] at hgwb
    have hzwb : wb.heap.size = w2.heap.size + 1 := by rw [← hwb]; simp
    obtain ⟨w6, hw6⟩ : ∃ w6 : World, wb.alloc (.cells #[.string sc, .slice none 0 0] 32) = w6 := ⟨_, rfl⟩
    have hmw6 : Mod (fun _ => False) wb w6 := hw6 ▸ (Mod.refl (fun _ => False) wb).alloc _
    have hgw6 := heap_alloc_new wb (.cells #[.string sc, .slice none 0 0] 32)
    rw [hw6] at hgw6
    have hzw6 : w6.heap.size = wb.heap.size + 1 := by rw [← hw6]; simp
    have hgb := hmw6.heap hgwb (fun h => h)
    have hg6 := (hmwb.trans hmw6 (fun _ _ h => h)).heap hg2 (fun h => h)
    have hrd := ((hown.mod hmwb (fun _ _ h => h)).mod hmw6 (fun _ _ h => h)).rd
    have hav : ∀ b, (Value.slice aa L.length ac).ownBlock = some b → b < wb.heap.size := fun b hb => by have := hown.lt b hb; omega
    have hz2 : w.heap.size < w2.heap.size := (Array.getElem?_eq_some_iff.1 hg2).1
    have hm06 := hm02.trans (hmwb.trans hmw6 (fun _ _ h => h)) (fun _ _ h => h)
    have hbz : w2.heap.size < wb.heap.size := by omega
    have hbz6 : wb.heap.size < w6.heap.size := by omega
    have hzb : w2.heap.size + 1 = wb.heap.size := by omega
    have hz6 : wb.heap.size + 1 = w6.heap.size := by omega
    have HL := Lib.hid hL
    have Hwb := Lib.hid hwb
    have Hw6 := Lib.hid hw6
    have Hgw6 := Lib.hid hgw6
    have Hgb := Lib.hid hgb
    have Hg6 := Lib.hid hg6
    have Hrd := Lib.hid hrd
    have Hav := Lib.hid hav
    have Hm06 := Lib.hid hm06
    have Hfr := Lib.hid hfr
    have Hzb := Lib.hid hzb
    have Hz6 := Lib.hid hz6
    clear hL hwb hw6 hgw6 hgb hg6 hrd hav hm06 hfr hzb hz6 hm02 hg2 hown hm2 hmwb hmw6 hgwb hzwb hzw6 Hnw Hm01 Hg1 hrr hlen
    have q0 : w6.cell? ⟨w2.heap.size, 0, none⟩ = some (.string sc) := cell_of Hgb.out rfl
    have q1 : w6.cell? ⟨w2.heap.size, 1, none⟩ = some (.slice aa L.length ac) := cell_of Hgb.out rfl
    go_wp2_with (first | ((with_reducible refine wpList_store_lit 32 (.tmp 5) (.tmp 14) ?_); refine ⟨rfl, [.string sc, .slice aa L.length ac], rfl, rfl, by kernel_rfl, rfl, ?_⟩; rw [Hwb.out]) | ((with_reducible refine wpList_store_lit 32 (.tmp 6) (.tmp 16) ?_); refine ⟨rfl, [.string sc, .slice none 0 0], rfl, rfl, by kernel_rfl, rfl, ?_⟩; rw [Hw6.out]) | fail)
    clear q0 q1
    go_loopw [20] (fun i wr => ∃ (j n : Nat) (oa : Option Addr) (oc : Nat), i = .int .i64 j ∧ j ≤ L.length ∧ n = (((L.take j).filter fun a => evRight [a]).take 8).length ∧ wr.heap[wb.heap.size]? = some (.cells #[.string sc, .slice oa n oc] 32 (0, 0)) ∧
      OwnSl wr 90 6 (.slice oa n oc) n (atts (((L.take j).filter fun a => evRight [a]).take 8)) ∧ (∀ b, (Value.slice oa n oc).ownBlock = some b → w6.heap.size ≤ b) ∧ Mod (fun k => k = wb.heap.size) w6 wr) (fun i _ => L.length - (intOf i).toNat)
    case atStart => exact ⟨0, 0, none, 0, rfl, Nat.zero_le _, rfl, Hgw6.out, OwnSl.nil _ _ _, fun b hb => (by cases hb), Mod.refl _ _⟩
    case round =>
      obtain ⟨j, n, oa, oc, rfl, hj, hn, hrow, hown, hfo, hmr⟩ := hrel
      by_cases hlt : j < L.length
      · have hlt' : (j : Int) < L.length := by omega
        obtain ⟨x, hxj⟩ : ∃ x, L[j]? = some x := ⟨_, List.getElem?_eq_getElem hlt⟩
        obtain ⟨g, off, rfl, hf⟩ : ∃ g off, aa = some ⟨g, off, none⟩ ∧ CellsAt wr g (off + j * 6) x.cells := rd_att (Hrd.out.mod hmr (fun b hb => by have := Hav.out b hb; omega)) hxj
        have hnx := take_filter_snoc (fun a => evRight [a]) hxj
        have hxn : x.name.size ≤ 9223372036854775807 := Hsz.out x (by rw [HL.out]; exact List.mem_of_getElem? hxj)
        have hn8 : n ≤ 8 := by rw [hn, List.length_take]; omega
        obtain ⟨acc, hacc⟩ : ∃ q, ((L.take j).filter fun a => evRight [a]).take 8 = q := ⟨_, rfl⟩
        rw [hacc] at hn hown hnx
        obtain ⟨nx, hnx'⟩ : ∃ q, ((L.take (j + 1)).filter fun a => evRight [a]).take 8 = q := ⟨_, rfl⟩
        rw [hnx', ← hn] at hnx
        obtain ⟨wz, hwz⟩ : ∃ wz : World, wr.alloc (.cells x.cells.toArray 90) = wz := ⟨_, rfl⟩
        have hmwz : Mod (fun _ => False) wr wz := hwz ▸ (Mod.refl (fun _ => False) wr).alloc _
        have hgwz := heap_alloc_new wr (.cells x.cells.toArray 90)
        rw [hwz] at hgwz
        have hzwz : wz.heap.size = wr.heap.size + 1 := by rw [← hwz]; simp
        have hlr : wb.heap.size < wr.heap.size := (Array.getElem?_eq_some_iff.1 hrow).1
        have hrowz := hmwz.heap hrow (fun h => h)
        have hownz := hown.mod hmwz (fun _ _ h => h)
        have hmz : Mod (fun k => k = wb.heap.size) w6 wz := hmr.trans hmwz (fun _ _ h => h.elim)
        have hlz2 : wr.heap.size < wz.heap.size := by omega
        have o0 : wz.cell? ⟨wb.heap.size, 0, none⟩ = some (.string sc) := cell_of hrowz rfl
        have o1 : wz.cell? ⟨wb.heap.size, 1, none⟩ = some (.slice oa n oc) := cell_of hrowz rfl
        have x0 : wz.cell? ⟨wr.heap.size, 0, none⟩ = some (.string x.name) := cell_of hgwz rfl
        have x1 : wz.cell? ⟨wr.heap.size, 1, none⟩ = some (.int .i64 x.v.kind) := cell_of hgwz rfl
        have x2 : wz.cell? ⟨wr.heap.size, 2, none⟩ = some (.int .i64 x.v.int) := cell_of hgwz rfl
        have x3 : wz.cell? ⟨wr.heap.size, 3, none⟩ = some (.float .f64 x.v.num) := cell_of hgwz rfl
        have x4 : wz.cell? ⟨wr.heap.size, 4, none⟩ = some (.string x.v.text) := cell_of hgwz rfl
        have x5 : wz.cell? ⟨wr.heap.size, 5, none⟩ = some (.bool x.v.yes) := cell_of hgwz rfl
        have Hxj := Lib.hid hxj
        have Hf := Lib.hid hf
        have Hwz := Lib.hid hwz
        have Hgwz := Lib.hid hgwz
        have Hrowz := Lib.hid hrowz
        have Hownz := Lib.hid hownz
        have Hmz := Lib.hid hmz
        have Hn := Lib.hid hn
        have Hnx := Lib.hid hnx
        have Hnx' := Lib.hid hnx'
        have Hfo := Lib.hid hfo
        clear hxj hf hwz hgwz hrowz hownz hmz hn hnx hnx' hfo hzwz hmwz hacc hrow hown hmr
        by_cases hn7 : n < 8
        · have hn7' : (n : Int) < 8 := by omega
          have hnx2 : nx = acc ++ (if evRight [x] = true then [x] else []) := by rw [Hnx.out, decide_eq_true hn7, Bool.true_and]
          obtain ⟨wS, hwS⟩ : ∃ wS : World, wz.alloc (.cells x.cells.toArray 90) = wS := ⟨_, rfl⟩
          have hmwS : Mod (fun _ => False) wz wS := hwS ▸ (Mod.refl (fun _ => False) wz).alloc _
          have hgwS := heap_alloc_new wz (.cells x.cells.toArray 90)
          rw [hwS] at hgwS
          have hzwS : wS.heap.size = wz.heap.size + 1 := by rw [← hwS]; simp
          have hwS' : wz.alloc (.cells #[.string x.name, .int .i64 x.v.kind, .int .i64 x.v.int, .float .f64 x.v.num, .string x.v.text, .bool x.v.yes] 90) = wS := hwS
          have hrdS : RdSl wS 6 (.slice (some ⟨wz.heap.size, 0, none⟩) 1 1) 1 x.cells := hwS ▸ RdSl.one wz x.cells 90 rfl
          have hrt := right_at ⟨#[]⟩ (.slice (some ⟨wz.heap.size, 0, none⟩) 1 1) [x] wS (by simpa [atts] using hrdS) (by simp) (fun y hy => by
            have : y = x := by simpa using hy
            rw [this]; exact hxn)
          have hrowS := hmwS.heap Hrowz.out (fun h => h)
          have hownS := Hownz.out.mod hmwS (fun _ _ h => h)
          have hmS : Mod (fun k => k = wb.heap.size) w6 wS := Hmz.out.trans hmwS (fun _ _ h => h.elim)
          have hgzS := hmwS.heap Hgwz.out (fun h => h)
          obtain ⟨RB, hRB⟩ : ∃ q, evRight [x] = q := ⟨_, rfl⟩
          rw [hRB] at hrt hnx2
          have HwS' := Lib.hid hwS'
          have Hrt := Lib.hid hrt
          have HrowS := Lib.hid hrowS
          have HownS := Lib.hid hownS
          have HmS := Lib.hid hmS
          have HgzS := Lib.hid hgzS
          have Hnx2 := Lib.hid hnx2
          clear hwS' hrt hrowS hownS hmS hgzS hnx2 hwS hmwS hgwS hzwS hrdS hRB Hrowz Hownz Hmz Hnx
          go_wp2_with (first | ((with_reducible refine wpList_load_lit 90 (.tmp 22) ?_); refine ⟨g, off + j * 6, rfl, x.cells, Hf.out, by kernel_rfl, by kernel_rfl, ?_⟩) | ((with_reducible refine wpList_store_lit 90 (.tmp 8) (.tmp 23) ?_); refine ⟨rfl, x.cells, rfl, rfl, by kernel_rfl, rfl, ?_⟩; rw [Hwz.out]) | (rw [show wz.alloc _ = wS from HwS'.out]) | fail)
          refine Hrt.out.mono ?_
          rintro e w3 ⟨rfl, hm3⟩
          have hrow3 := hm3.heap HrowS.out (fun h => h)
          have hown3 := HownS.out.mod hm3 (fun _ _ h => h)
          have hgz3 := hm3.heap HgzS.out (fun h => h)
          have hm63 : Mod (fun k => k = wb.heap.size) w6 w3 := HmS.out.trans hm3 (fun _ _ h => h.elim)
          have Hrow3 := Lib.hid hrow3
          have Hown3 := Lib.hid hown3
          have Hgz3 := Lib.hid hgz3
          have Hm63 := Lib.hid hm63
          clear hrow3 hown3 hgz3 hm63 hm3 o0 o1 x0 x1 x2 x3 x4 x5 Hrt HrowS HownS HgzS HmS
          cases RB with
          | false =>
            have hnx3 : nx = acc := by rw [Hnx2.out, if_neg (by decide), List.append_nil]
            have hown4 := Hown3.out
            rw [← hnx3, ← Hnx'.out] at hown4
            have hlen : n = (((L.take (j + 1)).filter fun a => evRight [a]).take 8).length := by rw [Hnx'.out, hnx3]; exact Hn.out
            have Hown4 := Lib.hid hown4
            have Hlen := Lib.hid hlen
            clear hown4 hlen hnx3
            go_wp2_with fail
            go_roundw
            case rel => exact ⟨j + 1, n, oa, oc, by go_num, hlt, Hlen.out, Hrow3.out, Hown4.out, Hfo.out, Hm63.out⟩
            case measure => simp [intOf]; omega
          | true =>
            have hnx3 : nx = acc ++ [x] := by rw [Hnx2.out, if_pos rfl]
            obtain ⟨wT, hwT⟩ : ∃ wT : World, w3.alloc (.cells x.cells.toArray 90) = wT := ⟨_, rfl⟩
            have hmwT : Mod (fun _ => False) w3 wT := hwT ▸ (Mod.refl (fun _ => False) w3).alloc _
            have hgwT := heap_alloc_new w3 (.cells x.cells.toArray 90)
            rw [hwT] at hgwT
            have hzwT : wT.heap.size = w3.heap.size + 1 := by rw [← hwT]; simp
            have hwT' : w3.alloc (.cells #[.string x.name, .int .i64 x.v.kind, .int .i64 x.v.int, .float .f64 x.v.num, .string x.v.text, .bool x.v.yes] 90) = wT := hwT
            have hrdT : RdSl wT 6 (.slice (some ⟨w3.heap.size, 0, none⟩) 1 1) 1 x.cells := hwT ▸ RdSl.one w3 x.cells 90 rfl
            have hone : ∀ u ∈ x.cells, u.oneCell' = true := fun u hu => List.all_eq_true.1 (show x.cells.all (·.oneCell') = true from rfl) u hu
            have hrowT := hmwT.heap Hrow3.out (fun h => h)
            have hownT := Hown3.out.mod hmwT (fun _ _ h => h)
            have hmT : Mod (fun k => k = wb.heap.size) w6 wT := Hm63.out.trans hmwT (fun _ _ h => h.elim)
            have hlen : n + 1 = (((L.take (j + 1)).filter fun a => evRight [a]).take 8).length := by rw [Hnx'.out, hnx3, List.length_append, ← Hn.out]; rfl
            have hatt : atts acc ++ x.cells = atts (((L.take (j + 1)).filter fun a => evRight [a]).take 8) := by rw [Hnx'.out, hnx3, atts_append]; simp [atts]
            have o1 : w3.cell? ⟨wb.heap.size, 1, none⟩ = some (.slice oa n oc) := cell_of Hrow3.out rfl
            have hl3 : wb.heap.size < w3.heap.size := (Array.getElem?_eq_some_iff.1 Hrow3.out).1
            have HwT' := Lib.hid hwT'
            have HrdT := Lib.hid hrdT
            have Hone := Lib.hid hone
            have HrowT := Lib.hid hrowT
            have HownT := Lib.hid hownT
            have HmT := Lib.hid hmT
            have Hlen := Lib.hid hlen
            have Hatt := Lib.hid hatt
            clear hwT' hrdT hone hrowT hownT hmT hlen hatt hwT hmwT hgwT hzwT hnx3
            go_wp2_with (first | ((with_reducible refine wpList_load_lit 90 (.tmp 8) ?_); refine ⟨wr.heap.size, 0, rfl, [.string x.name, .int .i64 x.v.kind, .int .i64 x.v.int, .float .f64 x.v.num, .string x.v.text, .bool x.v.yes], CellsAt.row Hgz3.out, by kernel_rfl, by kernel_rfl, ?_⟩) | (rw [show w3.alloc _ = wT from HwT'.out]) | ((with_reducible refine wpList_append_lit (.tmp 35) (.tmp 37) 30 ?_); refine ⟨rfl, 90, 6, 64, atts_T', .slice oa n oc, n, atts acc, rfl, HownT.out, _, 1, x.cells, rfl, HrdT.out, Hone.out, by omega, by unfold maxLen; omega, ?_⟩; intro ad cap2 w4 hA; have hne4 : ¬ inBlock (.slice oa n oc) wb.heap.size := (fun h => by have := Hfo.out _ h; omega); have hrow4 := hA.2.1.heap HrowT.out hne4; have f1 : w4.frozen? ⟨wb.heap.size, 1, none⟩ = false := fr_of hrow4; have e1 : w4.cell? ⟨wb.heap.size, 1, none⟩ = some (.slice oa n oc) := cell_of hrow4 rfl; have HA := Lib.hid hA; have Hrow4 := Lib.hid hrow4; have Hne4 := Lib.hid hne4; clear hA hrow4 hne4) | fail)
            have hfr5 : ∀ b, (Value.slice ad (n + 1) cap2).ownBlock = some b → w6.heap.size ≤ b := fun b hb => by
              rcases HA.out.2.2 with h | ⟨k, h, hk⟩
              · exact Hfo.out b (by rw [← h]; exact hb)
              · rw [h] at hb; cases hb
                have := HmT.out.size
                omega
            have hm4 : Mod (fun k => k = wb.heap.size) w6 w4 := HmT.out.upon HA.out.2.1 (fun b hb => .inr (Hfo.out b hb))
            have hown4 := HA.out.1
            rw [Hatt.out] at hown4
            have Hfr5 := Lib.hid hfr5
            have Hm4 := Lib.hid hm4
            have Hown4 := Lib.hid hown4
            clear hfr5 hm4 hown4 HA
            go_roundw
            case rel =>
              refine ⟨j + 1, n + 1, ad, cap2, by go_num, hlt, Hlen.out, heap_set Hrow4.out, Hown4.out.setCell (fun h => ?_) _, Hfr5.out, Hm4.out.setCell (fun _ => rfl) _⟩
              have := Hfr5.out _ h
              have h2 : w6.heap.size ≤ wb.heap.size := this
              omega
            case measure => simp [intOf]; omega
        · have hn7' : (8 : Int) ≤ n := by omega
          have hnx3 : nx = acc := by rw [Hnx.out, decide_eq_false hn7, Bool.false_and, if_neg (by decide), List.append_nil]
          have hown4 := Hownz.out
          rw [← hnx3, ← Hnx'.out] at hown4
          have hlen : n = (((L.take (j + 1)).filter fun a => evRight [a]).take 8).length := by rw [Hnx'.out, hnx3]; exact Hn.out
          have Hown4 := Lib.hid hown4
          have Hlen := Lib.hid hlen
          clear hown4 hlen hnx3
          go_wp2_with (first | ((with_reducible refine wpList_load_lit 90 (.tmp 22) ?_); refine ⟨g, off + j * 6, rfl, x.cells, Hf.out, by kernel_rfl, by kernel_rfl, ?_⟩) | ((with_reducible refine wpList_store_lit 90 (.tmp 8) (.tmp 23) ?_); refine ⟨rfl, x.cells, rfl, rfl, by kernel_rfl, rfl, ?_⟩; rw [Hwz.out]) | fail)
          go_roundw
          case rel => exact ⟨j + 1, n, oa, oc, by go_num, hlt, Hlen.out, Hrowz.out, Hown4.out, Hfo.out, Hmz.out⟩
          case measure => simp [intOf]; omega
      · obtain rfl : j = L.length := by omega
        rw [List.take_length] at hn hown
        have hown2 : OwnSl wr 90 6 (.slice oa n oc) n (atts (ev7L l)) := by unfold ev7L; rw [HL.out]; exact hown
        have hn2 : n = (ev7L l).length := by unfold ev7L; rw [HL.out]; exact hn
        have hgr := hmr.heap Hg6.out (by omega)
        have hm0r : Mod (fun _ => False) w wr := Hm06.out.upon hmr (fun b hb => .inr (by omega))
        have Hrow := Lib.hid hrow
        have Hown2 := Lib.hid hown2
        have Hn2 := Lib.hid hn2
        have Hgr := Lib.hid hgr
        have Hm0r := Lib.hid hm0r
        have Hfo := Lib.hid hfo
        clear hrow hown2 hn2 hgr hm0r hfo hown hn hmr
        go_wp2_with (first | ((with_reducible refine wpList_load_lit 32 (.tmp 6) ?_); refine ⟨wb.heap.size, 0, rfl, [.string sc, .slice oa n oc], CellsAt.row Hrow.out, by kernel_rfl, by kernel_rfl, ?_⟩) | ((with_reducible refine wpList_store_row_lit 32 (.tmp 4) (.tmp 41) ?_); refine ⟨w.heap.size, rfl, _, _, Hgr.out, [.string sc, .slice oa n oc], rfl, rfl, by kernel_rfl, rfl, ?_⟩; intro w9 hg9 hm9; have Hg9 := Lib.hid hg9; have Hm9 := Lib.hid hm9; clear hg9 hm9) | fail)
        refine bodyPost_cell rfl w.heap.size rfl _ (CellsAt.row Hg9.out) (by kernel_rfl) (by kernel_rfl) rfl ⟨.slice oa n oc, rfl, ?_, ?_, ?_⟩
        · rw [← Hn2.out]
          exact Hown2.out.mod Hm9.out (fun b hb => by have := Hfo.out b hb; have := Hm06.out.size; omega)
        · exact fun b hb => by have := Hfo.out b hb; have := Hm06.out.size; omega
        · exact Hm0r.out.upon Hm9.out (fun b hb => .inr (by omega))
end Go.Proofs.YtloplmaekonenaaGreatDoor

namespace Go.Proofs.YtloplmaekonenaaGreatDoor
set_option maxRecDepth 20000
open Go.RowKit

theorem nm_size {s : ByteArray} (h : isName s = true) : s.size ≤ 12 := by
  unfold isName at h
  simp only [Bool.and_eq_true, decide_eq_true_eq] at h
  exact h.2.2
theorem ev_each {l : List Att} (h : evRight l = true) {a : Att} (ha : a ∈ l) : isName a.name = true ∧ a.v.right = true := by
  unfold evRight at h
  simp only [Bool.and_eq_true, List.all_eq_true, decide_eq_true_eq] at h
  obtain ⟨k, hk⟩ := List.mem_iff_getElem?.1 ha
  have := h.1 k (List.mem_range.2 (List.getElem?_eq_some_iff.1 hk).1)
  unfold okAt at this
  rw [hk] at this
  simp only [Bool.and_eq_true] at this
  exact ⟨this.1.1.1, this.1.1.2⟩
theorem cut_sz (s : ByteArray) : s.size ≤ (cutS s).1.size + 1 + (cutS s).2.1.size := by
  unfold cutS
  split
  · simp only [ByteArray.size_extract]
    omega
  · show s.size ≤ s.size + 1 + _
    omega
theorem scN_size : ∀ (f : Nat) (s : ByteArray) (k : Nat), scN f s = some k → s.size ≤ 13 * k
  | 0, s, k, h => by cases h
  | f + 1, s, k, h => by
    rw [scN_succ] at h
    have hc := cut_sz s
    by_cases h1 : isName (cutS s).1 = true
    · rw [if_pos h1] at h
      have hn := nm_size h1
      by_cases h2 : (cutS s).2.2 = true
      · rw [if_pos h2] at h
        cases h3 : scN f (cutS s).2.1 with
        | none => rw [h3] at h; cases h
        | some k' =>
          rw [h3] at h
          have h4 : k' + 1 = k := by simpa using h
          have := scN_size f _ k' h3
          omega
      · rw [if_neg h2] at h
        have h4 : (cutS s).1 = s := by
          unfold cutS at h2 ⊢
          split
          · rename_i h5; rw [if_pos h5] at h2; exact absurd rfl h2
          · rfl
        rw [h4] at hn
        have h4 : 1 = k := by simpa using h
        omega
    · rw [if_neg h1] at h; cases h
theorem scRight_size {s : ByteArray} (h : scRight s = true) : s.size ≤ 52 := by
  unfold scRight at h
  rw [Bool.or_eq_true] at h
  rcases h with h | h
  · rw [List.isEmpty_iff, ByteArray.toList_eq] at h
    have : s.size = s.data.toList.length := by rw [Array.length_toList]; rfl
    rw [this, h]
    exact Nat.zero_le _
  · unfold scM at h
    cases h1 : scN (s.size + 1) s with
    | none => rw [h1] at h; cases h
    | some k =>
      rw [h1] at h
      have := scN_size _ _ _ h1
      simp only [decide_eq_true_eq] at h
      omega
/-- What a right filter is like. -/
theorem fil_bounds {sc : ByteArray} {l : List Cnd} (h : filRight sc l = true) : sc.size ≤ 52 ∧ l.length ≤ 6 ∧ ∀ c ∈ l, c.name.size ≤ 12 ∧ (0 ≤ c.op ∧ c.op ≤ 7) ∧ (0 ≤ c.v.kind ∧ c.v.kind ≤ 3) ∧ c.v.text.size ≤ 40 := by
  unfold filRight at h
  simp only [Bool.and_eq_true, List.all_eq_true, decide_eq_true_eq] at h
  refine ⟨scRight_size h.2.1, h.2.2, fun c hc => ?_⟩
  have h1 := h.1 c hc
  unfold Cnd.rightB V.right at h1
  simp only [Bool.and_eq_true, decide_eq_true_eq] at h1
  exact ⟨nm_size h1.1, ⟨h1.2.1, h1.2.2.1⟩, ⟨h1.2.2.2.1, h1.2.2.2.2.1⟩, h1.2.2.2.2.2⟩
theorem ev7_small {l : List Att} {a : Att} (h : a ∈ ev7L l) : a.name.size ≤ 12 ∧ a.v.text.size ≤ 40 := by
  have h1 := (List.mem_filter.1 (List.mem_of_mem_take h)).2
  have h2 := ev_each h1 (List.mem_singleton.2 rfl)
  refine ⟨nm_size h2.1, ?_⟩
  have h3 := h2.2
  unfold V.right at h3
  simp only [Bool.and_eq_true, decide_eq_true_eq] at h3
  exact h3.2.2
theorem ev7_len (l : List Att) : (ev7L l).length ≤ 8 := by
  unfold ev7L
  rw [List.length_take]
  omega
theorem ev7S_size {s : ByteArray} : (ev7S s).size ≤ 52 := by
  unfold ev7S
  split
  · rename_i h; exact scRight_size h
  · exact Nat.zero_le _
end Go.Proofs.YtloplmaekonenaaGreatDoor

namespace Go.Proofs.YtloplmaekonenaaGreatDoor
set_option maxRecDepth 20000
open Go.RowKit

/-- Some answer, yes or no. -/
def SomeBool (w : World) (e : Ending) (w' : World) : Prop := ∃ b, e = .returned (.bool b) ∧ Mod (fun _ => False) w w'
set_option maxHeartbeats 2000000 in
theorem light07_at (w : World) (sc : ByteArray) (cv : Value) (l : List Cnd) (hv : RdSl w 7 cv l.length (cnds l)) (hll : l.length ≤ 9223372036854775807) :
    Calls Tryz.prog 15 #[.agg #[.string sc, cv]] w (SomeBool w) := by
  obtain ⟨a, cap, rfl, hcap⟩ : ∃ a c, cv = .slice a l.length c ∧ l.length ≤ c := by obtain ⟨-, a, c, h, h2, -⟩ := hv; exact ⟨a, c, h, h2⟩
  have hll' : (l.length : Int) ≤ 9223372036854775807 := by omega
  have hcap' : (l.length : Int) ≤ cap := by omega
  obtain ⟨wa, hwa⟩ : ∃ wa : World, w.alloc (.cells #[.string sc, .slice a l.length cap] 29) = wa := ⟨_, rfl⟩
  have hmwa : Mod (fun _ => False) w wa := hwa ▸ (Mod.refl (fun _ => False) w).alloc _
  have hgwa := heap_alloc_new w (.cells #[.string sc, .slice a l.length cap] 29)
  rw [hwa] at hgwa
  have hzwa : wa.heap.size = w.heap.size + 1 := by rw [← hwa]; simp
  have hva := hv.mod hmwa (fun _ _ h => h)
  have c0 : wa.cell? ⟨w.heap.size, 0, none⟩ = some (.string sc) := cell_of hgwa rfl
  have c1 : wa.cell? ⟨w.heap.size, 1, none⟩ = some (.slice a l.length cap) := cell_of hgwa rfl
  have hqz : w.heap.size < wa.heap.size := by omega
  have Hv := Lib.hid hv
  have Hwa := Lib.hid hwa
  have Hmwa := Lib.hid hmwa
  have Hgwa := Lib.hid hgwa
  have Hva := Lib.hid hva
  clear hv hwa hmwa hgwa hva hzwa hll
  go_enter Tryz.func15, Tryz.ntmps15
  go_wp2_with (first | (rw [show w.alloc _ = wa from Hwa.out]) | fail)
  go_loopw [3, 12] (fun n i wr => ∃ (j : Nat) (x : Int), n = .int .i64 x ∧ i = .int .i64 j ∧ j ≤ l.length ∧ Mod (fun _ => False) wa wr) (fun _ i _ => l.length - (intOf i).toNat)
  case atStart => exact ⟨0, _, rfl, rfl, Nat.zero_le _, Mod.refl _ _⟩
  case round =>
    obtain ⟨j, n, rfl, rfl, hj, hmr⟩ := hrel
    by_cases hlt : j < l.length
    · have hlt' : (j : Int) < l.length := by omega
      obtain ⟨x, hxj⟩ : ∃ x, l[j]? = some x := ⟨_, List.getElem?_eq_getElem hlt⟩
      obtain ⟨g, off, rfl, hf⟩ : ∃ g off, a = some ⟨g, off, none⟩ ∧ CellsAt wr g (off + j * 7) x.cells := rd_cnd (Hva.out.mod hmr (fun _ _ h => h)) hxj
      obtain ⟨wz, hwz⟩ : ∃ wz : World, wr.alloc (.cells x.cells.toArray 81) = wz := ⟨_, rfl⟩
      have hmwz : Mod (fun _ => False) wr wz := hwz ▸ (Mod.refl (fun _ => False) wr).alloc _
      have hgwz := heap_alloc_new wr (.cells x.cells.toArray 81)
      rw [hwz] at hgwz
      have hzwz : wz.heap.size = wr.heap.size + 1 := by rw [← hwz]; simp
      have hmz := hmr.trans hmwz (fun _ _ h => h)
      have b0 : wz.cell? ⟨wr.heap.size, 0, none⟩ = some (.string x.name) := cell_of hgwz rfl
      have b5 : wz.cell? ⟨wr.heap.size, 5, none⟩ = some (.string x.v.text) := cell_of hgwz rfl
      have Hmr := Lib.hid hmr
      have Hxj := Lib.hid hxj
      have Hf := Lib.hid hf
      have Hwz := Lib.hid hwz
      have Hmwz := Lib.hid hmwz
      have Hgwz := Lib.hid hgwz
      have Hmz := Lib.hid hmz
      clear hmr hxj hf hwz hmwz hgwz hmz hzwz c0 c1
      go_wp2_with (first | ((with_reducible refine wpList_load_lit 81 (.tmp 14) ?_); refine ⟨g, off + j * 7, rfl, x.cells, Hf.out, by kernel_rfl, by kernel_rfl, ?_⟩) | ((with_reducible refine wpList_store_lit 81 (.tmp 5) (.tmp 15) ?_); refine ⟨rfl, x.cells, rfl, rfl, by kernel_rfl, rfl, ?_⟩; rw [Hwz.out]) | fail)
      go_roundw
      case rel => exact ⟨j + 1, _, rfl, by go_num, hlt, Hmz.out⟩
      case measure => simp [intOf]; omega
    · obtain rfl : j = l.length := by omega
      have hgr := hmr.heap Hgwa.out (fun h => h)
      have c1 : wr.cell? ⟨w.heap.size, 1, none⟩ = some (.slice a l.length cap) := cell_of hgr rfl
      have Hm := Lib.hid (Hmwa.out.trans hmr (fun _ _ h => h))
      clear hmr hgr
      by_cases hn : n ≤ 2000
      · go_wp2
        go_ret
        exact ⟨_, rfl, Hm.out⟩
      · have hn' : 2000 < n := by omega
        clear hn
        go_wp2
        go_ret
        exact ⟨_, rfl, Hm.out⟩

end Go.Proofs.YtloplmaekonenaaGreatDoor

namespace Go.Proofs.YtloplmaekonenaaGreatDoor
set_option maxRecDepth 20000
open Go.RowKit

/-- A filter in memory. -/
structure Fr where
  sc : ByteArray
  a : Option Addr
  c : Nat
  cs : List Cnd
def Fr.cells (f : Fr) : List Value := [.string f.sc, .slice f.a f.cs.length f.c]
def Fr.fil (f : Fr) : Fil := (f.sc, f.cs)
/-- Filters in memory: what each is made of is in range. -/
structure FrsAt (w : World) (v : Value) (l : List Fr) : Prop where
  rd : RdSl w 2 v l.length (l.flatMap Fr.cells)
  cs : ∀ f ∈ l, RdSl w 7 (.slice f.a f.cs.length f.c) f.cs.length (cnds f.cs)
  sc : ∀ f ∈ l, f.sc.size ≤ 9223372036854775807 ∧ f.cs.length ≤ 9223372036854775807
  nm : ∀ f ∈ l, ∀ c ∈ f.cs, c.name.size ≤ 9223372036854775807 ∧ (-9223372036854775808 ≤ c.v.int ∧ c.v.int ≤ 9223372036854775807) ∧ c.v.num < 2 ^ 64
theorem FrsAt.mod {w w' : World} {v : Value} {l : List Fr} (h : FrsAt w v l) (hm : Mod (fun _ => False) w w') : FrsAt w' v l := ⟨h.rd.mod hm (fun _ _ h => h), fun f hf => (h.cs f hf).mod hm (fun _ _ h => h), h.sc, h.nm⟩

end Go.Proofs.YtloplmaekonenaaGreatDoor

namespace Go.Proofs.YtloplmaekonenaaGreatDoor
set_option maxRecDepth 20000
open Go.RowKit Go.Sort

theorem skeys_at (mb : Option Nat) (w : World) : Calls Tryz.prog 57 #[.map mb] w fun e w' => e = .returned (.func (.func 96) #[] #[.pointer (some ⟨w.heap.size, 0, none⟩)]) ∧ w' = w.alloc (.cells #[.map mb] 61) :=
  Tryz.maps_Keys_57 mb w
theorem ssorted_at {w : World} {b n : Nat} {f : Lit → Option Value} (h : MapR w 9 b n f) (hn : n ≤ 1000000) {L : List (List UInt8)} (hnd : L.Nodup) (hm : ∀ x, x ∈ L ↔ (f (.string x)).isSome = true) :
    Calls Tryz.prog 56 #[.func (.func 96) #[] #[.pointer (some ⟨w.heap.size, 0, none⟩)]] (w.alloc (.cells #[.map (some b)] 61)) (SortedPost (w.alloc (.cells #[.map (some b)] 61)) 9 ((riseS L).map encStr)) := by
  obtain ⟨D, h1, h2, h3⟩ := h.keysS keyed_s Tryz.underlying9 hnd hm
  refine (Tryz.slices_Sorted_57 b n D rawR w h1 (by rw [h3]; unfold maxLen; omega) (by rw [h3]; omega)).mono ?_
  rintro e w' ⟨v, ss, rfl, hp, hrow, -, hb⟩
  obtain ⟨r1, r2⟩ := own_row' hrow
  have hs : ss.mergeSort (fun x y => decide (x ≤ y)) = riseS L := mergeSort_of_perm (hp.trans h2.symm)
  have hl : ss.length = (riseS L).length := by rw [← hs, List.length_mergeSort]
  rw [hs, hl] at r1
  exact ⟨v, rfl, by rw [List.length_map]; exact r1, r2, ⟨hb.os, hb.tape, hb.output, hb.size, fun k hk _ => hb.block k hk⟩⟩
/-- A cell of a slice of values of one cell each. -/
theorem rd_one {α : Type} {enc : α → Value} {w : World} {a : Option Addr} {n cap : Nat} {l : List α} {j : Nat} {x : α} (h : RdSl w 1 (.slice a n cap) n (l.map enc)) (hx : l[j]? = some x) : ∃ g off, a = some ⟨g, off, none⟩ ∧ w.cell? ⟨g, off + j, none⟩ = some (enc x) := by
  obtain ⟨h0, a', c', h1, -, h3, h4⟩ := h
  cases h1
  have hj := (List.getElem?_eq_some_iff.1 hx).1
  have hn : n = l.length := by rw [List.length_map] at h0; omega
  cases a with
  | none => exact absurd (h3 rfl) (by omega)
  | some ad =>
    obtain ⟨g, off, rfl, hc⟩ := h4 ad rfl (by omega)
    refine ⟨g, off, rfl, hc j (enc x) ?_⟩
    rw [List.getElem?_map, hx]
    rfl
/-- A filter's conditions lie in blocks of C. -/
def FrC (w : World) (C : Nat → Prop) (f : Fr) : Prop := OwnSl w 81 7 (.slice f.a f.cs.length f.c) f.cs.length (cnds f.cs) ∧ ∀ k, (Value.slice f.a f.cs.length f.c).ownBlock = some k → k < w.heap.size ∧ C k
theorem FrC.mod {w w' : World} {F C : Nat → Prop} {f : Fr} (h : FrC w C f) (hm : Mod F w w') (hF : ∀ k, k < w.heap.size → F k → ¬ C k) : FrC w' C f := ⟨h.1.mod hm (fun k hk hf => hF k (h.2 k hk).1 hf (h.2 k hk).2), fun k hk => ⟨Nat.lt_of_lt_of_le (h.2 k hk).1 hm.size, (h.2 k hk).2⟩⟩
theorem fil_fr {w : World} {own C : Nat → Prop} {v : Option Value} {q : Option Fil} (h : FilIs w own C v q) (hq : q ≠ none) : ∃ f : Fr, v = some (.agg #[.string f.sc, .slice f.a f.cs.length f.c]) ∧ q = some f.fil ∧ FrC w C f := by
  cases v <;> cases q
  · exact absurd rfl hq
  · exact h.elim
  · exact h.elim
  · rename_i v q
    obtain ⟨a, cap, rfl, h2, h3⟩ := h
    exact ⟨⟨q.1, a, cap, q.2⟩, rfl, rfl, h2, fun k hk => ⟨(h3 k hk).1, (h3 k hk).2.2⟩⟩
theorem filsT : SliceT Tryz.prog 45 29 2 40 := sliceT (by kernel_rfl) (by kernel_rfl)
/-- The keys of a place. -/
def keysL (M : List (Int × Fil)) (id : Int) : List (List UInt8) := (M.filter fun p => p.1 == id).map fun p => keyF p.2
theorem keysL_mem {M : List (Int × Fil)} {id : Int} {k : List UInt8} : k ∈ keysL M id ↔ (tabF M id k).isSome = true := by
  unfold keysL
  constructor
  · intro h
    obtain ⟨p, h0, rfl⟩ := List.mem_map.1 h
    obtain ⟨h1, h2⟩ := List.mem_filter.1 h0
    cases hf : tabF M id (keyF p.2) with
    | some q => rfl
    | none =>
      obtain ⟨x, q⟩ := p
      have e : x = id := by simpa using h2
      subst e
      exact absurd rfl (tabF_none hf q h1)
  · intro h
    cases hf : tabF M id k with
    | none => rw [hf] at h; cases h
    | some q =>
      obtain ⟨h1, h2⟩ := tabF_some hf
      exact List.mem_map.2 ⟨(id, q), List.mem_filter.2 ⟨h1, by simp⟩, h2⟩
theorem keysL_nodup {M : List (Int × Fil)} (h : M.Pairwise fun p q => ¬ (p.1 = q.1 ∧ keyF p.2 = keyF q.2)) (id : Int) : (keysL M id).Nodup := by
  unfold keysL
  refine List.pairwise_map.2 ((h.filter _).imp_of_mem fun {a b} ha hb h e => h ⟨?_, e⟩)
  have h1 := (List.mem_filter.1 ha).2
  have h2 := (List.mem_filter.1 hb).2
  simp only [beq_iff_eq] at h1 h2
  rw [h1, h2]
theorem keysL_len (M : List (Int × Fil)) (id : Int) : (keysL M id).length ≤ M.length := by
  unfold keysL
  rw [List.length_map]
  exact List.length_filter_le _ _
/-- What All leaves. -/
def TAllPost (w : World) (C : Nat → Prop) (L : List Fil) (e : Ending) (w' : World) : Prop :=
  ∃ v, ∃ l : List Fr, e = .returned v ∧ OwnSl w' 29 2 v l.length (l.flatMap Fr.cells) ∧ (∀ k, v.ownBlock = some k → w.heap.size ≤ k) ∧ l.map Fr.fil = L ∧ (∀ f ∈ l, FrC w' C f) ∧ Mod (fun _ => False) w w'
/-- A round of the loop that collects. -/
def AllRel (w1 : World) (C : Nat → Prop) (K : List (List UInt8)) (g : List UInt8 → Option Fil) (ov iv : Value) (wr : World) : Prop :=
  ∃ (j : Nat) (l : List Fr) (oa : Option Addr) (oc : Nat), iv = .int .i64 j ∧ j ≤ K.length ∧ l.length ≤ j ∧ ov = .slice oa l.length oc ∧ l.map Fr.fil = (K.take j).filterMap g ∧ OwnSl wr 29 2 ov l.length (l.flatMap Fr.cells) ∧ (∀ k, ov.ownBlock = some k → w1.heap.size ≤ k) ∧ (∀ f ∈ l, FrC wr C f) ∧ Mod (fun _ => False) w1 wr

end Go.Proofs.YtloplmaekonenaaGreatDoor
