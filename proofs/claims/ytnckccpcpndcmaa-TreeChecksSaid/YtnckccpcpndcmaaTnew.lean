/-
  tree.New.
-/
import Derived.Test.YtnckccpcpndcmaaTree
import Derived.Test.YtnckccpcpndcmaaShelf
import Derived.Laws.MakeOwn
import Derived.Lib.Hide
import Derived.BigRegion
import Derived.BigQuiet
import Derived.WalkSpells
import Derived.Handy
import Derived.WalkLawsBesides
import Derived.Test.YtnckccpcpndcmaaSortI
namespace Go.Proofs.Ytnckccpcpndcmaa
open Go.RowKit

def nils (n : Nat) : List Value := List.replicate n (.slice none 0 0)
def noughts (n : Nat) : List Int := List.replicate n 0
theorem made_one (z : Value) (n : Nat) : madeCells #[z] n = (List.replicate n z).toArray := by
  unfold madeCells
  apply Array.ext
  · simp
  · intro i h1 h2
    simp [Nat.mod_one]
theorem mk_rows (n : Nat) (hn : n ≤ 6) (w : World) : (Instr.makeSlice 41 (.int .i64 n) (.int .i64 n)).run Try.prog w = .ok (.slice (some ⟨w.heap.size, 0, none⟩) n n) (w.alloc (.cells (nils n).toArray 22)) := by
  obtain ⟨i, hi, h⟩ : ∃ i, Try.prog.info? 22 = some i ∧ (i.zero.map (·.cells), i.size, i.bytes) = (some #[.slice none 0 0], 1, 24) := ⟨_, rfl, by kernel_rfl⟩
  simp only [Prod.mk.injEq] at h
  obtain ⟨h1, h2, h3⟩ := h
  cases hz : i.zero with
  | none => rw [hz] at h1; cases h1
  | some z =>
    rw [hz] at h1
    have h1 : z.cells = #[.slice none 0 0] := by simpa using h1
    have hr := run_make (P := Try.prog) w 41 22 i z (by kernel_rfl) hi hz .i64 .i64 n n (by omega) (by omega) (by rw [h3]; omega) (by omega)
    rw [Int.toNat_natCast, h1, h2, Nat.mul_one, made_one] at hr
    exact hr
theorem mk_ints (n : Nat) (hn : n ≤ 6) (w : World) : (Instr.makeSlice 22 (.int .i64 n) (.int .i64 n)).run Try.prog w = .ok (.slice (some ⟨w.heap.size, 0, none⟩) n n) (w.alloc (.cells (ints (noughts n)).toArray 3)) := by
  obtain ⟨i, hi, h⟩ : ∃ i, Try.prog.info? 3 = some i ∧ (i.zero.map (·.cells), i.size, i.bytes) = (some #[.int .i64 0], 1, 8) := ⟨_, rfl, by kernel_rfl⟩
  simp only [Prod.mk.injEq] at h
  obtain ⟨h1, h2, h3⟩ := h
  cases hz : i.zero with
  | none => rw [hz] at h1; cases h1
  | some z =>
    rw [hz] at h1
    have h1 : z.cells = #[.int .i64 0] := by simpa using h1
    have hr := run_make (P := Try.prog) w 22 3 i z (by kernel_rfl) hi hz .i64 .i64 n n (by omega) (by omega) (by rw [h3]; omega) (by omega)
    rw [Int.toNat_natCast, h1, h2, Nat.mul_one, made_one] at hr
    rw [hr]
    unfold ints noughts
    rw [List.map_replicate]

/-- Pairs, as cells. -/
def prs (ps : List (Int × Int)) : List Value := ps.flatMap fun p => [.int .i64 p.1, .int .i64 p.2]
theorem prs_at (ps : List (Int × Int)) {k j : Nat} {p : Int × Int} {u : Value} (h : ps[k]? = some p) (hj : [Value.int .i64 p.1, .int .i64 p.2][j]? = some u) : (prs ps)[2 * k + j]? = some u := by
  induction ps generalizing k with
  | nil => simp at h
  | cons b l ih =>
    unfold prs at ih ⊢
    rw [List.flatMap_cons]
    have hj2 := (List.getElem?_eq_some_iff.1 hj).1
    simp only [List.length_cons, List.length_nil] at hj2
    cases k with
    | zero =>
      simp only [List.getElem?_cons_zero, Option.some.injEq] at h
      subst h
      rw [List.getElem?_append_left (by simp; omega), Nat.mul_zero, Nat.zero_add, hj]
    | succ k =>
      rw [List.getElem?_cons_succ] at h
      rw [List.getElem?_append_right (by simp; omega), List.length_cons, List.length_cons, List.length_nil, show 2 * (k + 1) + j - (0 + 1 + 1) = 2 * k + j by omega]
      exact ih h
theorem rd_pair {w : World} {a : Option Addr} {cap : Nat} {l : List (Int × Int)} {j : Nat} {x : Int × Int} (h : RdSl w 2 (.slice a l.length cap) l.length (prs l)) (hx : l[j]? = some x) : ∃ g off, a = some ⟨g, off, none⟩ ∧ CellsAt w g (off + j * 2) [.int .i64 x.1, .int .i64 x.2] := by
  obtain ⟨-, a', c', h1, -, h3, h4⟩ := h
  cases h1
  cases a with
  | none => have := (List.getElem?_eq_some_iff.1 hx).1; exact absurd (h3 rfl) (by omega)
  | some b =>
    obtain ⟨g', off', h5, h6⟩ := h4 _ rfl (by have := (List.getElem?_eq_some_iff.1 hx).1; omega)
    refine ⟨g', off', by rw [h5], fun i u hu => ?_⟩
    have := h6 (2 * j + i) u (prs_at _ hx hu)
    rw [show off' + j * 2 + i = off' + (2 * j + i) by omega]
    exact this

def iota (n j : Nat) : List Int := (List.range n).map fun i => if i < j then Int.ofNat i else 0
theorem iota_zero (n : Nat) : iota n 0 = noughts n := by
  unfold iota noughts
  apply List.ext_getElem <;> simp
theorem iota_set (n j : Nat) : (iota n j).set j (Int.ofNat j) = iota n (j + 1) := by
  unfold iota
  apply List.ext_getElem
  · simp
  · intro i h1 h2
    rw [List.getElem_set]
    simp only [List.getElem_map, List.getElem_range]
    split
    · rename_i h; subst h; rw [if_pos (by omega)]
    · rename_i h3
      by_cases h4 : i < j
      · rw [if_pos h4, if_pos (by omega)]
      · rw [if_neg h4, if_neg (by omega)]
theorem iota_all (n : Nat) : iota n n = (startT n).root := by
  unfold iota startT
  apply List.map_congr_left
  intro i hi
  rw [if_pos (List.mem_range.1 hi)]

/-- What New hands back: its error, or a tree. -/
def NewPost (w : World) (R : Int × List (List Int)) (e : Ending) (w' : World) : Prop := ∃ p, e = .returned (.tuple #[p, .int .i64 R.1]) ∧ (R.1 ≠ 0 → p = .pointer none) ∧
  (R.1 = 0 → ∃ t, p = .pointer (some ⟨t, 0, none⟩) ∧ w.heap.size ≤ t ∧ TreeAt w' t R.2) ∧ Mod (fun _ => False) w w'

set_option maxRecDepth 20000 in
set_option maxHeartbeats 8000000 in
theorem new_at (n : Int) (pv : Value) (ps : List (Int × Int)) (w : World) (hp : RdSl w 2 pv ps.length (prs ps)) (hpl : ps.length ≤ 1000000) :
    Calls Try.prog 8 #[.int .i64 n, pv] w (NewPost w (newT n ps)) := by
  obtain ⟨pa, pc, rfl, hpc⟩ : ∃ a c, pv = .slice a ps.length c ∧ ps.length ≤ c := by obtain ⟨-, a, c, h, h2, -⟩ := hp; exact ⟨a, c, h, h2⟩
  have hpl' : (ps.length : Int) ≤ 1000000 := by omega
  have hpc' : (ps.length : Int) ≤ pc := by omega
  by_cases hb : n < 1 ∨ 6 < n
  · have e : newT n ps = (3, []) := by unfold newT; rw [if_pos hb]
    rw [e]
    have Hp := Lib.hid hp
    clear hp e
    rcases hb with hb | hb
    · go_enter Try.func8, Try.ntmps8
      go_wp2
      go_ret2
      exact ⟨.pointer none, rfl, fun _ => rfl, fun h => absurd h (by decide), Mod.refl _ _⟩
    · go_enter Try.func8, Try.ntmps8
      have hb1 : ¬ n < 1 := by omega
      go_wp2
      go_ret2
      exact ⟨.pointer none, rfl, fun _ => rfl, fun h => absurd h (by decide), Mod.refl _ _⟩
  have hb1 : ¬ n < 1 := fun h => hb (.inl h)
  have hb2 : ¬ 6 < n := fun h => hb (.inr h)
  obtain ⟨m, rfl⟩ : ∃ m : Nat, n = m := ⟨n.toNat, by omega⟩
  have hm1 : (1 : Int) ≤ m := by omega
  have hm6 : (m : Int) ≤ 6 := by omega
  have hmk1 := mk_rows m (by omega)
  have hmk2 := mk_ints m (by omega)
  have hnt : newT m ps = (if (goT m ps (startT m)).1 = 0 then (if (ps.length : Int) = m - 1 then (0, (goT m ps (startT m)).2.near.map sortI) else (1, [])) else ((goT m ps (startT m)).1, [])) := by
    unfold newT
    rw [if_neg hb, Int.toNat_natCast]
  obtain ⟨NT, hNT⟩ : ∃ q, newT m ps = q := ⟨_, rfl⟩
  rw [hNT] at hnt ⊢
  obtain ⟨wa, hwa⟩ : ∃ wa : World, w.alloc (.cells (nils m).toArray 22) = wa := ⟨_, rfl⟩
  have hmwa : Mod (fun _ => False) w wa := hwa ▸ (Mod.refl (fun _ => False) w).alloc _
  have hgwa := heap_alloc_new w (.cells (nils m).toArray 22)
  rw [hwa] at hgwa
  have hzwa : wa.heap.size = w.heap.size + 1 := by rw [← hwa]; simp
  obtain ⟨wb, hwb⟩ : ∃ wb : World, wa.alloc (.cells #[.slice (some ⟨w.heap.size, 0, none⟩) m m] 43) = wb := ⟨_, rfl⟩
  have hmwb : Mod (fun _ => False) wa wb := hwb ▸ (Mod.refl (fun _ => False) wa).alloc _
  have hgwb := heap_alloc_new wa (.cells #[.slice (some ⟨w.heap.size, 0, none⟩) m m] 43)
  rw [hwb] at hgwb
  have hzwb : wb.heap.size = wa.heap.size + 1 := by rw [← hwb]; simp
  obtain ⟨wc, hwc⟩ : ∃ wc : World, wb.alloc (.cells (ints (noughts m)).toArray 3) = wc := ⟨_, rfl⟩
  have hmwc : Mod (fun _ => False) wb wc := hwc ▸ (Mod.refl (fun _ => False) wb).alloc _
  have hgwc := heap_alloc_new wb (.cells (ints (noughts m)).toArray 3)
  rw [hwc] at hgwc
  have hzwc : wc.heap.size = wb.heap.size + 1 := by rw [← hwc]; simp
  have hmc := (hmwa.trans hmwb (fun _ _ h => h)).trans hmwc (fun _ _ h => h)
  have hTB0 : TB wc wc.heap.size wa.heap.size w.heap.size wb.heap.size m (nils m) (nils m) (startT m).near (iota m 0) := by
    refine ⟨hmwc.heap hgwb (fun h => h), hmwc.heap (hmwb.heap hgwa (fun h => h)) (fun h => h), by rw [iota_zero]; exact hgwc, Nat.le_refl _, by simp [nils], by simp [nils], by simp [startT], by simp [iota], by omega, fun i v l hv hl => ?_, fun i v b hv hb => ?_, fun i j v u b _ hv _ hb => ?_⟩
    · obtain rfl : v = .slice none 0 0 := List.eq_of_mem_replicate (List.mem_of_getElem? hv)
      obtain rfl : l = [] := List.eq_of_mem_replicate (List.mem_of_getElem? hl)
      exact OwnSl.nil _ _ _
    · obtain rfl : v = .slice none 0 0 := List.eq_of_mem_replicate (List.mem_of_getElem? hv)
      cases hb
    · obtain rfl : v = .slice none 0 0 := List.eq_of_mem_replicate (List.mem_of_getElem? hv)
      cases hb
  have hz1 : w.heap.size < wa.heap.size := by omega
  have hz2 : wa.heap.size < wb.heap.size := by omega
  have hz3 : wb.heap.size < wc.heap.size := by omega
  have Hp := Lib.hid hp
  have Hmk1 := Lib.hid hmk1
  have Hmk2 := Lib.hid hmk2
  have Hwa := Lib.hid hwa
  have Hwb := Lib.hid hwb
  have Hwc := Lib.hid hwc
  have Hmc := Lib.hid hmc
  have HTB0 := Lib.hid hTB0
  have Hnt := Lib.hid hnt
  clear hp hmk1 hmk2 hwa hwb hwc hmc hTB0 hnt hgwa hgwb hgwc hmwa hmwb hmwc hzwa hzwb hzwc hNT hb hb1 hb2
  have hmk1 := Hmk1.out
  have hmk2 := Hmk2.out
  go_enter Try.func8, Try.ntmps8
  go_wp2_with (first | (rw [show w.alloc _ = wa from Hwa.out]) | (rw [show wa.alloc _ = wb from Hwb.out]) | (rw [show wb.alloc _ = wc from Hwc.out]) | fail)
  clear hmk1 hmk2
  go_loopw [32] (fun i wr => ∃ j : Nat, i = .int .i64 j ∧ j ≤ m ∧ TB wr wc.heap.size wa.heap.size w.heap.size wb.heap.size m (nils m) (nils m) (startT m).near (iota m j) ∧ Mod (fun _ => False) w wr) (fun i _ => m - (intOf i).toNat)
  case atStart => exact ⟨0, rfl, Nat.zero_le _, HTB0.out, Hmc.out⟩
  case round =>
    obtain ⟨j, rfl, hj, hTB, hmr⟩ := hrel
    by_cases hlt : j < m
    · have hlt' : (j : Int) < m := by omega
      obtain ⟨y, hy⟩ : ∃ y, (iota m j)[j]? = some y := ⟨_, List.getElem?_eq_getElem (by simp [iota]; exact hlt)⟩
      have c : wr.cell? ⟨wb.heap.size, j, none⟩ = some (.int .i64 y) := (cell_of_row wr wb.heap.size j _ _ _ hTB.hr).trans (by simpa using ints_at hy)
      have fz : wr.frozen? ⟨wb.heap.size, j, none⟩ = false := fr_of hTB.hr
      have hT2 := hTB.rootSet j (Int.ofNat j)
      rw [iota_set] at hT2
      have hm2 : Mod (fun _ => False) w (wr.setCell ⟨wb.heap.size, j, none⟩ (.int .i64 (Int.ofNat j))) := hmr.setCell (fun h => by have h2 : wb.heap.size < w.heap.size := h; omega) _
      have HT2 := Lib.hid hT2
      have Hm2 := Lib.hid hm2
      clear hT2 hm2 hTB hmr hy
      go_wp2_with fail
      go_roundw
      case rel => exact ⟨j + 1, by go_num, hlt, HT2.out, Hm2.out⟩
      case measure => simp [intOf]; omega
    · obtain rfl : m = j := by omega
      rw [iota_all] at hTB
      obtain ⟨wd, rfl⟩ : ∃ wd : World, wd = wr := ⟨_, rfl⟩
      have HTB := Lib.hid hTB
      have Hmr := Lib.hid hmr
      clear hTB hmr HTB0 Hmc
      go_wp2_with fail
      go_loopw [42] (fun i wr => ∃ (j : Nat) (vs : List Value) (s : TS), i = .int .i64 j ∧ j ≤ ps.length ∧ goT m (ps.take j) (startT m) = (0, s) ∧ (∀ l ∈ s.near, l.length ≤ j) ∧ TB wr wc.heap.size wa.heap.size w.heap.size wb.heap.size m vs vs s.near s.root ∧ Mod (fun _ => False) w wr) (fun i _ => ps.length - (intOf i).toNat)
      case atStart => exact ⟨0, nils m, startT m, rfl, Nat.zero_le _, rfl, fun l hl => (by rw [List.eq_of_mem_replicate hl]; exact Nat.zero_le _), HTB.out, Hmr.out⟩
      case round =>
        obtain ⟨wo, rfl⟩ : ∃ wo : World, wo = wr := ⟨_, rfl⟩
        obtain ⟨j, vs, s, rfl, hj, hgo, hnl, hTB, hmr⟩ := hrel
        have Hnl := Lib.hid hnl
        clear hnl
        by_cases hlt : j < ps.length
        · have hlt' : (j : Int) < ps.length := by omega
          obtain ⟨p, hpj⟩ : ∃ p, ps[j]? = some p := ⟨_, List.getElem?_eq_getElem hlt⟩
          obtain ⟨pg, poff, rfl, hf⟩ : ∃ pg poff, pa = some ⟨pg, poff, none⟩ ∧ CellsAt wo pg (poff + j * 2) [.int .i64 p.1, .int .i64 p.2] := rd_pair (Hp.out.mod hmr (fun _ _ h => h)) hpj
          have hstop := goT_take hgo hpj
          obtain ⟨pa1, pa2⟩ := p
          rw [goT_cons] at hstop
          simp only at hstop hf
          obtain ⟨wz, hwz⟩ : ∃ wz : World, wo.alloc (.cells #[.int .i64 pa1, .int .i64 pa2] 25) = wz := ⟨_, rfl⟩
          have hmwz : Mod (fun _ => False) wo wz := hwz ▸ (Mod.refl (fun _ => False) wo).alloc _
          have hgwz := heap_alloc_new wo (.cells #[.int .i64 pa1, .int .i64 pa2] 25)
          rw [hwz] at hgwz
          have hzwz : wz.heap.size = wo.heap.size + 1 := by rw [← hwz]; simp
          have hTz := hTB.mod hmwz
          have hmz := hmr.trans hmwz (fun _ _ h => h)
          have c0 : wz.cell? ⟨wo.heap.size, 0, none⟩ = some (.int .i64 pa1) := cell_of hgwz rfl
          have c1 : wz.cell? ⟨wo.heap.size, 1, none⟩ = some (.int .i64 pa2) := cell_of hgwz rfl
          have hnt2 : (goT m (ps.take (j + 1)) (startT m)).1 ≠ 0 → NT = ((goT m (ps.take (j + 1)) (startT m)).1, []) := fun h => by
            rw [Hnt.out, goT_stop h, if_neg h]
          have Hf := Lib.hid hf
          have Hwz := Lib.hid hwz
          have Hgwz := Lib.hid hgwz
          have HTz := Lib.hid hTz
          have Hmz := Lib.hid hmz
          have Hstop := Lib.hid hstop
          have Hnt2 := Lib.hid hnt2
          have Hpj := Lib.hid hpj
          have Hgo := Lib.hid hgo
          clear hf hwz hgwz hTz hmz hstop hnt2 hpj hgo hzwz hmwz hTB hmr
          go_wp2_with (first | ((with_reducible refine wpList_load_lit 25 (.tmp 44) ?_); refine ⟨pg, poff + j * 2, rfl, [.int .i64 pa1, .int .i64 pa2], Hf.out, by kernel_rfl, by kernel_rfl, ?_⟩) | ((with_reducible refine wpList_store_lit 25 (.tmp 10) (.tmp 45) ?_); refine ⟨rfl, [.int .i64 pa1, .int .i64 pa2], rfl, rfl, by kernel_rfl, rfl, ?_⟩; rw [Hwz.out]) | fail)
          go_quiet (fail)
          by_cases hbad : pa1 < 0 ∨ pa2 < 0 ∨ (m : Int) ≤ pa1 ∨ (m : Int) ≤ pa2 ∨ pa1 = pa2
          · have hs2 := Hstop.out
            rw [if_pos hbad] at hs2
            have hn3 : NT = (3, []) := by rw [Hnt2.out (by rw [hs2]; exact (by decide : (3 : Int) ≠ 0)), hs2]
            subst hn3
            clear hs2
            rcases hbad with h | h | h | h | h
            · go_wp2
              all_goals (go_ret2; exact ⟨.pointer none, rfl, fun _ => rfl, fun h => absurd h (by decide), Hmz.out.drewN _⟩)
            · go_wp2
              all_goals (go_ret2; exact ⟨.pointer none, rfl, fun _ => rfl, fun h => absurd h (by decide), Hmz.out.drewN _⟩)
            · go_wp2
              all_goals (go_ret2; exact ⟨.pointer none, rfl, fun _ => rfl, fun h => absurd h (by decide), Hmz.out.drewN _⟩)
            · go_wp2
              all_goals (go_ret2; exact ⟨.pointer none, rfl, fun _ => rfl, fun h => absurd h (by decide), Hmz.out.drewN _⟩)
            · have h5 : (pa1 == pa2) = true := by rw [h]; exact beq_self_eq_true _
              clear h
              go_wp2
              all_goals (go_ret2; exact ⟨.pointer none, rfl, fun _ => rfl, fun h => absurd h (by decide), Hmz.out.drewN _⟩)
          have h1 : 0 ≤ pa1 := by omega
          have h2 : 0 ≤ pa2 := by omega
          have h3 : pa1 < m := by omega
          have h4 : pa2 < m := by omega
          have h5 : (pa1 == pa2) = false := by rw [beq_eq_false_iff_ne]; omega
          have hs2 := Hstop.out
          rw [if_neg hbad] at hs2
          obtain ⟨a, rfl⟩ : ∃ a : Nat, pa1 = a := ⟨pa1.toNat, by omega⟩
          obtain ⟨b, rfl⟩ : ∃ b : Nat, pa2 = b := ⟨pa2.toNat, by omega⟩
          rw [Int.toNat_natCast, Int.toNat_natCast] at hs2
          have hab : a ≠ b := by omega
          obtain ⟨xa, hxa⟩ : ∃ x, s.root[a]? = some x := ⟨_, List.getElem?_eq_getElem (by have := HTz.out.lr; omega)⟩
          obtain ⟨xb, hxb⟩ : ∃ x, s.root[b]? = some x := ⟨_, List.getElem?_eq_getElem (by have := HTz.out.lr; omega)⟩
          have d1 : wz.cell? ⟨wb.heap.size, a, none⟩ = some (.int .i64 xa) := (cell_of_row wz wb.heap.size a _ _ _ HTz.out.hr).trans (by simpa using ints_at hxa)
          have d2 : wz.cell? ⟨wb.heap.size, b, none⟩ = some (.int .i64 xb) := (cell_of_row wz wb.heap.size b _ _ _ HTz.out.hr).trans (by simpa using ints_at hxb)
          have hga : s.root.getD a 0 = xa := by simp [List.getD, hxa]
          have hgb : s.root.getD b 0 = xb := by simp [List.getD, hxb]
          rw [hga, hgb] at hs2
          have Hs2 := Lib.hid hs2
          have Hab := Lib.hid hab
          have Hxa := Lib.hid hxa
          have Hxb := Lib.hid hxb
          have Hga := Lib.hid hga
          have Hgb := Lib.hid hgb
          clear hs2 hab hxa hxb hga hgb hbad Hstop c0 c1
          go_wp2_with fail
          go_quiet (fail)
          by_cases hxy : xa = xb
          · have hs3 := Hs2.out
            rw [if_pos hxy] at hs3
            have hn3 : NT = (1, []) := by rw [Hnt2.out (by rw [hs3]; exact (by decide : (1 : Int) ≠ 0)), hs3]
            subst hn3
            have h6 : (xa == xb) = true := by rw [hxy]; exact beq_self_eq_true _
            clear hs3 hxy
            go_wp2
            go_ret2
            exact ⟨.pointer none, rfl, fun _ => rfl, fun h => absurd h (by decide), Hmz.out.drewN _⟩
          have hs3 := Hs2.out
          rw [if_neg hxy] at hs3
          have h6 : (xa == xb) = false := by rw [beq_eq_false_iff_ne]; exact hxy
          have Hs3 := Lib.hid hs3
          clear hs3 hxy Hs2 d1 d2
          go_wp2_with fail
          have hdr : ∀ k, TB (wz.drewN k) wc.heap.size wa.heap.size w.heap.size wb.heap.size m vs vs s.near s.root ∧ Mod (fun _ => False) w (wz.drewN k) := fun k => ⟨HTz.out.mod ((Mod.refl _ wz).drewN k), Hmz.out.drewN k⟩
          generalize hwe : wz.drewN _ = we
          have hTe : TB we wc.heap.size wa.heap.size w.heap.size wb.heap.size m vs vs s.near s.root := hwe ▸ (hdr _).1
          have hme : Mod (fun _ => False) w we := hwe ▸ (hdr _).2
          have hml : (m : Int) ≤ 6 := by omega
          have HTe := Lib.hid hTe
          have Hme := Lib.hid hme
          clear hTe hme hwe hdr HTz Hmz Hwz Hgwz
          obtain ⟨f, hf⟩ : ∃ f : Int → Int, f = fun r => if r = xb then xa else r := ⟨_, rfl⟩
          go_loopw [84] (fun i wr => ∃ k : Nat, i = .int .i64 k ∧ k ≤ m ∧ TB wr wc.heap.size wa.heap.size w.heap.size wb.heap.size m vs vs s.near (part f k s.root) ∧ Mod (fun _ => False) w wr) (fun i _ => m - (intOf i).toNat)
          case atStart => exact ⟨0, rfl, Nat.zero_le _, by rw [part_zero]; exact HTe.out, Hme.out⟩
          case round =>
            obtain ⟨wf, rfl⟩ : ∃ wf : World, wf = wr := ⟨_, rfl⟩
            obtain ⟨k, rfl, hk, hTk, hmk⟩ := hrel
            by_cases hlk : k < m
            · have hlk' : (k : Int) < m := by omega
              obtain ⟨y, hy⟩ : ∃ y, s.root[k]? = some y := ⟨_, List.getElem?_eq_getElem (by have := HTe.out.lr; omega)⟩
              have c : wf.cell? ⟨wb.heap.size, k, none⟩ = some (.int .i64 y) := (cell_of_row wf wb.heap.size k _ _ _ hTk.hr).trans (by simpa using ints_at (part_at (f := f) hy))
              have fz : wf.frozen? ⟨wb.heap.size, k, none⟩ = false := fr_of hTk.hr
              by_cases hyb : y = xb
              · have hfy : f y = xa := by rw [hf]; exact if_pos hyb
                have hT2 := hTk.rootSet k xa
                rw [← hfy, part_set hy, hfy] at hT2
                have hm2 : Mod (fun _ => False) w (wf.setCell ⟨wb.heap.size, k, none⟩ (.int .i64 xa)) := hmk.setCell (fun h => by have h2 : wb.heap.size < w.heap.size := h; omega) _
                have h7 : (y == xb) = true := by rw [hyb]; exact beq_self_eq_true _
                have HT2 := Lib.hid hT2
                have Hm2 := Lib.hid hm2
                clear hT2 hm2 hTk hmk hy hyb hf hfy
                go_wp2_with fail
                go_roundw
                case rel => exact ⟨k + 1, by go_num, hlk, HT2.out, Hm2.out⟩
                case measure => simp [intOf]; omega
              · have hfy : f y = y := by rw [hf]; exact if_neg hyb
                rw [part_next hy hfy] at hTk
                have h7 : (y == xb) = false := by rw [beq_eq_false_iff_ne]; exact hyb
                have HTk := Lib.hid hTk
                have Hmk := Lib.hid hmk
                clear hTk hmk hy hyb hf hfy
                go_wp2_with fail
                go_roundw
                case rel => exact ⟨k + 1, by go_num, hlk, HTk.out, Hmk.out⟩
                case measure => simp [intOf]; omega
            · obtain rfl : m = k := by omega
              have hpa : part f m s.root = s.root.map f := by
                have := part_all f s.root
                rw [HTe.out.lr] at this
                exact this
              rw [hpa] at hTk
              have HTk := Lib.hid hTk
              have Hmk := Lib.hid hmk
              have Hf := Lib.hid hf
              clear hTk hmk hf hpa HTe Hme
              go_wp2_with fail
              have hT0 := HTk.out
              obtain ⟨va, hva⟩ : ∃ v, vs[a]? = some v := ⟨_, List.getElem?_eq_getElem (by have := hT0.lv; omega)⟩
              obtain ⟨vb, hvb⟩ : ∃ v, vs[b]? = some v := ⟨_, List.getElem?_eq_getElem (by have := hT0.lv; omega)⟩
              obtain ⟨la, hla⟩ : ∃ v, s.near[a]? = some v := ⟨_, List.getElem?_eq_getElem (by have := hT0.ln; omega)⟩
              obtain ⟨lb, hlb⟩ : ∃ v, s.near[b]? = some v := ⟨_, List.getElem?_eq_getElem (by have := hT0.ln; omega)⟩
              have hS : wf.drew.cell? ⟨wa.heap.size, 0, none⟩ = some (.slice (some ⟨w.heap.size, 0, none⟩) m m) ∧ wf.drew.cell? ⟨w.heap.size, a, none⟩ = some va ∧ wf.drew.cell? ⟨w.heap.size, b, none⟩ = some vb :=
                ⟨cell_of hT0.ht rfl, (cell_of_row wf w.heap.size a _ _ _ hT0.hg).trans (by simpa using hva), (cell_of_row wf w.heap.size b _ _ _ hT0.hg).trans (by simpa using hvb)⟩
              have hstep : s.step a b = ⟨(s.near.set a (la ++ [(b : Int)])).set b (lb ++ [(a : Int)]), s.root.map f⟩ := by
                unfold TS.step
                rw [Hga.out, Hgb.out, Hf.out]
                simp [List.getD, hla, hlb]
              have hgo2 : goT m (ps.take (j + 1)) (startT m) = (0, s.step a b) := Hs3.out
              have hla2 := Hnl.out la (List.mem_of_getElem? hla)
              have hlb2 := Hnl.out lb (List.mem_of_getElem? hlb)
              have hnl2 : ∀ l ∈ (s.step a b).near, l.length ≤ j + 1 := fun l hl => by
                rw [hstep] at hl
                rcases List.mem_or_eq_of_mem_set hl with hl | rfl
                · rcases List.mem_or_eq_of_mem_set hl with hl | rfl
                  · have := Hnl.out l hl; omega
                  · simp; omega
                · simp; omega
              have hownA := hT0.own a va la hva hla
              have hownB := hT0.own b vb lb hvb hlb
              have hS2 := hS
              have hTd := hT0.mod ((Mod.refl (fun _ => False) wf).drew)
              have hmd := Hmk.out.drew
              have hbase := hT0.sz
              have hltb := hT0.lt
              have hfa := fun k hk => hT0.fresh a va k hva hk
              have hone1 : ∀ x : Int, ∀ u ∈ [Value.int .i64 x], u.oneCell' = true := fun x u hu => by
                have : u = .int .i64 x := by simpa using hu
                rw [this]; rfl
              have Hva := Lib.hid hva
              have Hvb := Lib.hid hvb
              have Hla := Lib.hid hla
              have Hlb := Lib.hid hlb
              have HS2 := Lib.hid hS2
              have Hstep := Lib.hid hstep
              have Hgo2 := Lib.hid hgo2
              have Hnl2 := Lib.hid hnl2
              have HTd := Lib.hid hTd
              have Hmd := Lib.hid hmd
              have HownA := Lib.hid hownA
              have HownB := Lib.hid hownB
              have Hfa := Lib.hid hfa
              have Hone1 := Lib.hid hone1
              clear hva hvb hla hlb hS2 hstep hgo2 hnl2 hTd hmd hownA hownB hfa hone1 hT0 hS
              refine wp_region_any6 [0, 1, 2, 3, 4, 5, 6, 7, 8, 9, 10, 11, 12, 13, 14, 15, 16, 17, 18, 19, 20, 21, 22, 23, 24, 25, 26, 27, 28, 29] (fun y : World => y.cell? ⟨wa.heap.size, 0, none⟩ = some (.slice (some ⟨w.heap.size, 0, none⟩) m m) ∧ y.cell? ⟨w.heap.size, a, none⟩ = some va ∧ y.cell? ⟨w.heap.size, b, none⟩ = some vb) (by kernel_rfl) (by kernel_rfl) (fun _ _ d _ _ h => (by cases d <;> exact h)) ?_
              have hS := HS2.out
              refine an_rd (i := 0) (by kernel_rfl) rfl ?_ (fun _ => hS) ?_ (fun w0 h0 => ?_) (fun K hK => ?_)
              · (try simp only [List.getElem_toArray]); (try simp only [List.getElem_cons_succ]); (try simp only [List.getElem_cons_zero])
                go_simp; done
              rotate_left
              · (try simp only [List.getElem_toArray]); (try simp only [List.getElem_cons_succ]); (try simp only [List.getElem_cons_zero])
                first
                  | (obtain ⟨f1, f2, f3⟩ := h0 rfl; clear h0; go_simp; with_reducible rfl)
                  | (clear h0; go_simp; with_reducible rfl)
              (try simp only [List.getElem_toArray]); (try simp only [List.getElem_cons_succ]); (try simp only [List.getElem_cons_zero])
              go_simp; refine hK _ ?_; clear hK K
              refine an_rd (i := 1) (by kernel_rfl) rfl ?_ (fun _ => hS) ?_ (fun w0 h0 => ?_) (fun K hK => ?_)
              · (try simp only [List.getElem_toArray]); (try simp only [List.getElem_cons_succ]); (try simp only [List.getElem_cons_zero])
                go_simp; done
              rotate_left
              · (try simp only [List.getElem_toArray]); (try simp only [List.getElem_cons_succ]); (try simp only [List.getElem_cons_zero])
                first
                  | (obtain ⟨f1, f2, f3⟩ := h0 rfl; clear h0; go_simp; with_reducible rfl)
                  | (clear h0; go_simp; with_reducible rfl)
              (try simp only [List.getElem_toArray]); (try simp only [List.getElem_cons_succ]); (try simp only [List.getElem_cons_zero])
              go_simp; refine hK _ ?_; clear hK K
              refine an_rd (i := 2) (by kernel_rfl) rfl ?_ (fun _ => hS) ?_ (fun w0 h0 => ?_) (fun K hK => ?_)
              · (try simp only [List.getElem_toArray]); (try simp only [List.getElem_cons_succ]); (try simp only [List.getElem_cons_zero])
                go_simp; done
              rotate_left
              · (try simp only [List.getElem_toArray]); (try simp only [List.getElem_cons_succ]); (try simp only [List.getElem_cons_zero])
                first
                  | (obtain ⟨f1, f2, f3⟩ := h0 rfl; clear h0; go_simp; with_reducible rfl)
                  | (clear h0; go_simp; with_reducible rfl)
              (try simp only [List.getElem_toArray]); (try simp only [List.getElem_cons_succ]); (try simp only [List.getElem_cons_zero])
              go_simp; refine hK _ ?_; clear hK K
              refine an_rd (i := 3) (by kernel_rfl) rfl ?_ (fun _ => hS) ?_ (fun w0 h0 => ?_) (fun K hK => ?_)
              · (try simp only [List.getElem_toArray]); (try simp only [List.getElem_cons_succ]); (try simp only [List.getElem_cons_zero])
                go_simp; done
              rotate_left
              · (try simp only [List.getElem_toArray]); (try simp only [List.getElem_cons_succ]); (try simp only [List.getElem_cons_zero])
                first
                  | (obtain ⟨f1, f2, f3⟩ := h0 rfl; clear h0; go_simp; with_reducible rfl)
                  | (clear h0; go_simp; with_reducible rfl)
              (try simp only [List.getElem_toArray]); (try simp only [List.getElem_cons_succ]); (try simp only [List.getElem_cons_zero])
              go_simp; refine hK _ ?_; clear hK K
              refine an_rd (i := 4) (by kernel_rfl) rfl ?_ (fun _ => hS) ?_ (fun w0 h0 => ?_) (fun K hK => ?_)
              · (try simp only [List.getElem_toArray]); (try simp only [List.getElem_cons_succ]); (try simp only [List.getElem_cons_zero])
                go_simp; done
              rotate_left
              · (try simp only [List.getElem_toArray]); (try simp only [List.getElem_cons_succ]); (try simp only [List.getElem_cons_zero])
                first
                  | (obtain ⟨f1, f2, f3⟩ := h0 rfl; clear h0; go_simp; with_reducible rfl)
                  | (clear h0; go_simp; with_reducible rfl)
              (try simp only [List.getElem_toArray]); (try simp only [List.getElem_cons_succ]); (try simp only [List.getElem_cons_zero])
              go_simp; refine hK _ ?_; clear hK K
              refine an_rd (i := 5) (by kernel_rfl) rfl ?_ (fun _ => hS) ?_ (fun w0 h0 => ?_) (fun K hK => ?_)
              · (try simp only [List.getElem_toArray]); (try simp only [List.getElem_cons_succ]); (try simp only [List.getElem_cons_zero])
                go_simp; done
              rotate_left
              · (try simp only [List.getElem_toArray]); (try simp only [List.getElem_cons_succ]); (try simp only [List.getElem_cons_zero])
                first
                  | (obtain ⟨f1, f2, f3⟩ := h0 rfl; clear h0; go_simp; with_reducible rfl)
                  | (clear h0; go_simp; with_reducible rfl)
              (try simp only [List.getElem_toArray]); (try simp only [List.getElem_cons_succ]); (try simp only [List.getElem_cons_zero])
              go_simp; refine hK _ ?_; clear hK K
              refine an_rd (i := 6) (by kernel_rfl) rfl ?_ (fun _ => hS) ?_ (fun w0 h0 => ?_) (fun K hK => ?_)
              · (try simp only [List.getElem_toArray]); (try simp only [List.getElem_cons_succ]); (try simp only [List.getElem_cons_zero])
                go_simp; done
              rotate_left
              · (try simp only [List.getElem_toArray]); (try simp only [List.getElem_cons_succ]); (try simp only [List.getElem_cons_zero])
                first
                  | (obtain ⟨f1, f2, f3⟩ := h0 rfl; clear h0; go_simp; with_reducible rfl)
                  | (clear h0; go_simp; with_reducible rfl)
              (try simp only [List.getElem_toArray]); (try simp only [List.getElem_cons_succ]); (try simp only [List.getElem_cons_zero])
              go_simp; refine hK _ ?_; clear hK K
              refine an_rd (i := 7) (by kernel_rfl) rfl ?_ (fun _ => hS) ?_ (fun w0 h0 => ?_) (fun K hK => ?_)
              · (try simp only [List.getElem_toArray]); (try simp only [List.getElem_cons_succ]); (try simp only [List.getElem_cons_zero])
                go_simp; done
              rotate_left
              · (try simp only [List.getElem_toArray]); (try simp only [List.getElem_cons_succ]); (try simp only [List.getElem_cons_zero])
                first
                  | (obtain ⟨f1, f2, f3⟩ := h0 rfl; clear h0; go_simp; with_reducible rfl)
                  | (clear h0; go_simp; with_reducible rfl)
              (try simp only [List.getElem_toArray]); (try simp only [List.getElem_cons_succ]); (try simp only [List.getElem_cons_zero])
              go_simp; refine hK _ ?_; clear hK K
              refine an_rd (i := 8) (by kernel_rfl) rfl ?_ (fun _ => hS) ?_ (fun w0 h0 => ?_) (fun K hK => ?_)
              · (try simp only [List.getElem_toArray]); (try simp only [List.getElem_cons_succ]); (try simp only [List.getElem_cons_zero])
                go_simp; done
              rotate_left
              · (try simp only [List.getElem_toArray]); (try simp only [List.getElem_cons_succ]); (try simp only [List.getElem_cons_zero])
                first
                  | (obtain ⟨f1, f2, f3⟩ := h0 rfl; clear h0; go_simp; with_reducible rfl)
                  | (clear h0; go_simp; with_reducible rfl)
              (try simp only [List.getElem_toArray]); (try simp only [List.getElem_cons_succ]); (try simp only [List.getElem_cons_zero])
              go_simp; refine hK _ ?_; clear hK K
              refine an_rd (i := 9) (by kernel_rfl) rfl ?_ (fun _ => hS) ?_ (fun w0 h0 => ?_) (fun K hK => ?_)
              · (try simp only [List.getElem_toArray]); (try simp only [List.getElem_cons_succ]); (try simp only [List.getElem_cons_zero])
                go_simp; done
              rotate_left
              · (try simp only [List.getElem_toArray]); (try simp only [List.getElem_cons_succ]); (try simp only [List.getElem_cons_zero])
                first
                  | (obtain ⟨f1, f2, f3⟩ := h0 rfl; clear h0; go_simp; with_reducible rfl)
                  | (clear h0; go_simp; with_reducible rfl)
              (try simp only [List.getElem_toArray]); (try simp only [List.getElem_cons_succ]); (try simp only [List.getElem_cons_zero])
              go_simp; refine hK _ ?_; clear hK K
              refine an_rd (i := 10) (by kernel_rfl) rfl ?_ (fun _ => hS) ?_ (fun w0 h0 => ?_) (fun K hK => ?_)
              · (try simp only [List.getElem_toArray]); (try simp only [List.getElem_cons_succ]); (try simp only [List.getElem_cons_zero])
                go_simp; done
              rotate_left
              · (try simp only [List.getElem_toArray]); (try simp only [List.getElem_cons_succ]); (try simp only [List.getElem_cons_zero])
                first
                  | (obtain ⟨f1, f2, f3⟩ := h0 rfl; clear h0; go_simp; with_reducible rfl)
                  | (clear h0; go_simp; with_reducible rfl)
              (try simp only [List.getElem_toArray]); (try simp only [List.getElem_cons_succ]); (try simp only [List.getElem_cons_zero])
              go_simp; refine hK _ ?_; clear hK K
              refine an_rd (i := 11) (by kernel_rfl) rfl ?_ (fun _ => hS) ?_ (fun w0 h0 => ?_) (fun K hK => ?_)
              · (try simp only [List.getElem_toArray]); (try simp only [List.getElem_cons_succ]); (try simp only [List.getElem_cons_zero])
                go_simp; done
              rotate_left
              · (try simp only [List.getElem_toArray]); (try simp only [List.getElem_cons_succ]); (try simp only [List.getElem_cons_zero])
                first
                  | (obtain ⟨f1, f2, f3⟩ := h0 rfl; clear h0; go_simp; with_reducible rfl)
                  | (clear h0; go_simp; with_reducible rfl)
              (try simp only [List.getElem_toArray]); (try simp only [List.getElem_cons_succ]); (try simp only [List.getElem_cons_zero])
              go_simp; refine hK _ ?_; clear hK K
              refine an_rd (i := 12) (by kernel_rfl) rfl ?_ (fun _ => hS) ?_ (fun w0 h0 => ?_) (fun K hK => ?_)
              · (try simp only [List.getElem_toArray]); (try simp only [List.getElem_cons_succ]); (try simp only [List.getElem_cons_zero])
                go_simp; done
              rotate_left
              · (try simp only [List.getElem_toArray]); (try simp only [List.getElem_cons_succ]); (try simp only [List.getElem_cons_zero])
                first
                  | (obtain ⟨f1, f2, f3⟩ := h0 rfl; clear h0; go_simp; with_reducible rfl)
                  | (clear h0; go_simp; with_reducible rfl)
              (try simp only [List.getElem_toArray]); (try simp only [List.getElem_cons_succ]); (try simp only [List.getElem_cons_zero])
              go_simp; refine hK _ ?_; clear hK K
              refine an_rd (i := 13) (by kernel_rfl) rfl ?_ (fun _ => hS) ?_ (fun w0 h0 => ?_) (fun K hK => ?_)
              · (try simp only [List.getElem_toArray]); (try simp only [List.getElem_cons_succ]); (try simp only [List.getElem_cons_zero])
                go_simp; done
              rotate_left
              · (try simp only [List.getElem_toArray]); (try simp only [List.getElem_cons_succ]); (try simp only [List.getElem_cons_zero])
                first
                  | (obtain ⟨f1, f2, f3⟩ := h0 rfl; clear h0; go_simp; with_reducible rfl)
                  | (clear h0; go_simp; with_reducible rfl)
              (try simp only [List.getElem_toArray]); (try simp only [List.getElem_cons_succ]); (try simp only [List.getElem_cons_zero])
              go_simp; refine hK _ ?_; clear hK K
              refine an_rd (i := 14) (by kernel_rfl) rfl ?_ (fun _ => hS) ?_ (fun w0 h0 => ?_) (fun K hK => ?_)
              · (try simp only [List.getElem_toArray]); (try simp only [List.getElem_cons_succ]); (try simp only [List.getElem_cons_zero])
                go_simp; done
              rotate_left
              · (try simp only [List.getElem_toArray]); (try simp only [List.getElem_cons_succ]); (try simp only [List.getElem_cons_zero])
                first
                  | (obtain ⟨f1, f2, f3⟩ := h0 rfl; clear h0; go_simp; with_reducible rfl)
                  | (clear h0; go_simp; with_reducible rfl)
              (try simp only [List.getElem_toArray]); (try simp only [List.getElem_cons_succ]); (try simp only [List.getElem_cons_zero])
              go_simp; refine hK _ ?_; clear hK K
              refine an_rd (i := 15) (by kernel_rfl) rfl ?_ (fun _ => hS) ?_ (fun w0 h0 => ?_) (fun K hK => ?_)
              · (try simp only [List.getElem_toArray]); (try simp only [List.getElem_cons_succ]); (try simp only [List.getElem_cons_zero])
                go_simp; done
              rotate_left
              · (try simp only [List.getElem_toArray]); (try simp only [List.getElem_cons_succ]); (try simp only [List.getElem_cons_zero])
                first
                  | (obtain ⟨f1, f2, f3⟩ := h0 rfl; clear h0; go_simp; with_reducible rfl)
                  | (clear h0; go_simp; with_reducible rfl)
              (try simp only [List.getElem_toArray]); (try simp only [List.getElem_cons_succ]); (try simp only [List.getElem_cons_zero])
              go_simp; refine hK _ ?_; clear hK K
              refine an_rd (i := 16) (by kernel_rfl) rfl ?_ (fun _ => hS) ?_ (fun w0 h0 => ?_) (fun K hK => ?_)
              · (try simp only [List.getElem_toArray]); (try simp only [List.getElem_cons_succ]); (try simp only [List.getElem_cons_zero])
                go_simp; done
              rotate_left
              · (try simp only [List.getElem_toArray]); (try simp only [List.getElem_cons_succ]); (try simp only [List.getElem_cons_zero])
                first
                  | (obtain ⟨f1, f2, f3⟩ := h0 rfl; clear h0; go_simp; with_reducible rfl)
                  | (clear h0; go_simp; with_reducible rfl)
              (try simp only [List.getElem_toArray]); (try simp only [List.getElem_cons_succ]); (try simp only [List.getElem_cons_zero])
              go_simp; refine hK _ ?_; clear hK K
              refine an_rd (i := 17) (by kernel_rfl) rfl ?_ (fun _ => hS) ?_ (fun w0 h0 => ?_) (fun K hK => ?_)
              · (try simp only [List.getElem_toArray]); (try simp only [List.getElem_cons_succ]); (try simp only [List.getElem_cons_zero])
                go_simp; done
              rotate_left
              · (try simp only [List.getElem_toArray]); (try simp only [List.getElem_cons_succ]); (try simp only [List.getElem_cons_zero])
                first
                  | (obtain ⟨f1, f2, f3⟩ := h0 rfl; clear h0; go_simp; with_reducible rfl)
                  | (clear h0; go_simp; with_reducible rfl)
              (try simp only [List.getElem_toArray]); (try simp only [List.getElem_cons_succ]); (try simp only [List.getElem_cons_zero])
              go_simp; refine hK _ ?_; clear hK K
              refine an_rd (i := 20) (by kernel_rfl) rfl ?_ (fun _ => hS) ?_ (fun w0 h0 => ?_) (fun K hK => ?_)
              · (try simp only [List.getElem_toArray]); (try simp only [List.getElem_cons_succ]); (try simp only [List.getElem_cons_zero])
                go_simp; done
              rotate_left
              · (try simp only [List.getElem_toArray]); (try simp only [List.getElem_cons_succ]); (try simp only [List.getElem_cons_zero])
                first
                  | (obtain ⟨f1, f2, f3⟩ := h0 rfl; clear h0; go_simp; with_reducible rfl)
                  | (clear h0; go_simp; with_reducible rfl)
              (try simp only [List.getElem_toArray]); (try simp only [List.getElem_cons_succ]); (try simp only [List.getElem_cons_zero])
              go_simp; refine hK _ ?_; clear hK K
              refine an_rd (i := 21) (by kernel_rfl) rfl ?_ (fun _ => hS) ?_ (fun w0 h0 => ?_) (fun K hK => ?_)
              · (try simp only [List.getElem_toArray]); (try simp only [List.getElem_cons_succ]); (try simp only [List.getElem_cons_zero])
                go_simp; done
              rotate_left
              · (try simp only [List.getElem_toArray]); (try simp only [List.getElem_cons_succ]); (try simp only [List.getElem_cons_zero])
                first
                  | (obtain ⟨f1, f2, f3⟩ := h0 rfl; clear h0; go_simp; with_reducible rfl)
                  | (clear h0; go_simp; with_reducible rfl)
              (try simp only [List.getElem_toArray]); (try simp only [List.getElem_cons_succ]); (try simp only [List.getElem_cons_zero])
              go_simp; refine hK _ ?_; clear hK K
              refine an_rd (i := 22) (by kernel_rfl) rfl ?_ (fun _ => hS) ?_ (fun w0 h0 => ?_) (fun K hK => ?_)
              · (try simp only [List.getElem_toArray]); (try simp only [List.getElem_cons_succ]); (try simp only [List.getElem_cons_zero])
                go_simp; done
              rotate_left
              · (try simp only [List.getElem_toArray]); (try simp only [List.getElem_cons_succ]); (try simp only [List.getElem_cons_zero])
                first
                  | (obtain ⟨f1, f2, f3⟩ := h0 rfl; clear h0; go_simp; with_reducible rfl)
                  | (clear h0; go_simp; with_reducible rfl)
              (try simp only [List.getElem_toArray]); (try simp only [List.getElem_cons_succ]); (try simp only [List.getElem_cons_zero])
              go_simp; refine hK _ ?_; clear hK K
              refine an_rd (i := 23) (by kernel_rfl) rfl ?_ (fun _ => hS) ?_ (fun w0 h0 => ?_) (fun K hK => ?_)
              · (try simp only [List.getElem_toArray]); (try simp only [List.getElem_cons_succ]); (try simp only [List.getElem_cons_zero])
                go_simp; done
              rotate_left
              · (try simp only [List.getElem_toArray]); (try simp only [List.getElem_cons_succ]); (try simp only [List.getElem_cons_zero])
                first
                  | (obtain ⟨f1, f2, f3⟩ := h0 rfl; clear h0; go_simp; with_reducible rfl)
                  | (clear h0; go_simp; with_reducible rfl)
              (try simp only [List.getElem_toArray]); (try simp only [List.getElem_cons_succ]); (try simp only [List.getElem_cons_zero])
              go_simp; refine hK _ ?_; clear hK K
              refine an_rd (i := 24) (by kernel_rfl) rfl ?_ (fun _ => hS) ?_ (fun w0 h0 => ?_) (fun K hK => ?_)
              · (try simp only [List.getElem_toArray]); (try simp only [List.getElem_cons_succ]); (try simp only [List.getElem_cons_zero])
                go_simp; done
              rotate_left
              · (try simp only [List.getElem_toArray]); (try simp only [List.getElem_cons_succ]); (try simp only [List.getElem_cons_zero])
                first
                  | (obtain ⟨f1, f2, f3⟩ := h0 rfl; clear h0; go_simp; with_reducible rfl)
                  | (clear h0; go_simp; with_reducible rfl)
              (try simp only [List.getElem_toArray]); (try simp only [List.getElem_cons_succ]); (try simp only [List.getElem_cons_zero])
              go_simp; refine hK _ ?_; clear hK K
              refine an_rd (i := 25) (by kernel_rfl) rfl ?_ (fun _ => hS) ?_ (fun w0 h0 => ?_) (fun K hK => ?_)
              · (try simp only [List.getElem_toArray]); (try simp only [List.getElem_cons_succ]); (try simp only [List.getElem_cons_zero])
                go_simp; done
              rotate_left
              · (try simp only [List.getElem_toArray]); (try simp only [List.getElem_cons_succ]); (try simp only [List.getElem_cons_zero])
                first
                  | (obtain ⟨f1, f2, f3⟩ := h0 rfl; clear h0; go_simp; with_reducible rfl)
                  | (clear h0; go_simp; with_reducible rfl)
              (try simp only [List.getElem_toArray]); (try simp only [List.getElem_cons_succ]); (try simp only [List.getElem_cons_zero])
              go_simp; refine hK _ ?_; clear hK K
              refine an_rd (i := 26) (by kernel_rfl) rfl ?_ (fun _ => hS) ?_ (fun w0 h0 => ?_) (fun K hK => ?_)
              · (try simp only [List.getElem_toArray]); (try simp only [List.getElem_cons_succ]); (try simp only [List.getElem_cons_zero])
                go_simp; done
              rotate_left
              · (try simp only [List.getElem_toArray]); (try simp only [List.getElem_cons_succ]); (try simp only [List.getElem_cons_zero])
                first
                  | (obtain ⟨f1, f2, f3⟩ := h0 rfl; clear h0; go_simp; with_reducible rfl)
                  | (clear h0; go_simp; with_reducible rfl)
              (try simp only [List.getElem_toArray]); (try simp only [List.getElem_cons_succ]); (try simp only [List.getElem_cons_zero])
              go_simp; refine hK _ ?_; clear hK K
              refine an_rd (i := 27) (by kernel_rfl) rfl ?_ (fun _ => hS) ?_ (fun w0 h0 => ?_) (fun K hK => ?_)
              · (try simp only [List.getElem_toArray]); (try simp only [List.getElem_cons_succ]); (try simp only [List.getElem_cons_zero])
                go_simp; done
              rotate_left
              · (try simp only [List.getElem_toArray]); (try simp only [List.getElem_cons_succ]); (try simp only [List.getElem_cons_zero])
                first
                  | (obtain ⟨f1, f2, f3⟩ := h0 rfl; clear h0; go_simp; with_reducible rfl)
                  | (clear h0; go_simp; with_reducible rfl)
              (try simp only [List.getElem_toArray]); (try simp only [List.getElem_cons_succ]); (try simp only [List.getElem_cons_zero])
              go_simp; refine hK _ ?_; clear hK K
              refine an_two (i := 18) (j := 28) (by kernel_rfl) (go_yes rfl ?_ (fun K hK => ?_)) (go_yes rfl ?_ (fun K hK => ?_))
              · (try simp only [List.getElem_toArray]); (try simp only [List.getElem_cons_succ]); (try simp only [List.getElem_cons_zero])
                go_simp; done
              · (try simp only [List.getElem_toArray]); (try simp only [List.getElem_cons_succ]); (try simp only [List.getElem_cons_zero])
                go_simp
                obtain ⟨w1, hw1⟩ : ∃ q : World, (wf.alloc (.cells #[.int .i64 b] 3)).drew = q := ⟨_, rfl⟩
                have hmw1 : Mod (fun _ => False) wf.drew w1 := hw1 ▸ (by exact ⟨(((Mod.refl (fun _ => False) wf).alloc _).drew).os, (((Mod.refl (fun _ => False) wf).alloc _).drew).tape, (((Mod.refl (fun _ => False) wf).alloc _).drew).output, (((Mod.refl (fun _ => False) wf).alloc _).drew).size, (((Mod.refl (fun _ => False) wf).alloc _).drew).block⟩)
                have hrw1 : RdSl w1 1 (.slice (some ⟨wf.heap.size, 0, none⟩) 1 1) 1 [.int .i64 b] := hw1 ▸ RdSl.oneD wf [.int .i64 b] 3 rfl
                have hT1 := HTd.out.mod hmw1
                have hM1 := Hmd.out.trans hmw1 (fun _ _ h => h)
                rw [hw1]
                refine hK _ _ (fun _ h => ⟨hmw1.cell h.1 (fun h => h), hmw1.cell h.2.1 (fun h => h), hmw1.cell h.2.2 (fun h => h)⟩) ?_
                clear hK K hw1
                refine an_two (i := 19) (j := 28) (by kernel_rfl) (go_yes rfl ?_ (fun K hK => ?_)) (go_yes rfl ?_ (fun K hK => ?_))
                · (try simp only [List.getElem_toArray]); (try simp only [List.getElem_cons_succ]); (try simp only [List.getElem_cons_zero])
                  go_simp; done
                · refine wp_append_sl (.tmp 114) (.tmp 116) 22 rfl 3 1 8 ints_T va la.length (ints la) rfl (hT1.own a va la (Hva.out) (Hla.out)) (.slice (some ⟨wf.heap.size, 0, none⟩) 1 1) 1 [.int .i64 b] rfl (hrw1) (Hone1.out _) (by omega) (by unfold maxLen; omega) (fun w2ad w2cap w2 hw2A => ?_)
                  (try simp only [List.getElem_toArray]); (try simp only [List.getElem_cons_succ]); (try simp only [List.getElem_cons_zero])
                  go_simp
                  have hfw2 : ∀ k, inBlock va k → wc.heap.size ≤ k := fun k hk => hT1.fresh a va k (Hva.out) hk
                  refine hK _ _ (fun _ h => ⟨hw2A.2.1.cell h.1 (fun h => ?_), hw2A.2.1.cell h.2.1 (fun h => ?_), hw2A.2.1.cell h.2.2 (fun h => ?_)⟩) ?_
                  · exact absurd (hfw2 _ h) (by show ¬ wc.heap.size ≤ wa.heap.size; omega)
                  · exact absurd (hfw2 _ h) (by show ¬ wc.heap.size ≤ w.heap.size; omega)
                  · exact absurd (hfw2 _ h) (by show ¬ wc.heap.size ≤ w.heap.size; omega)
                  clear hK K
                  have hT2 := hT1.app (Hva.out) hw2A
                  have hM2 := hM1.upon hw2A.2.1 (fun b hb => .inr (by have := hfw2 b hb; omega))
                  refine an_one (i := 28) (by kernel_rfl) (go_yes rfl ?_ (fun K hK => ?_))
                  · (try simp only [List.getElem_toArray]); (try simp only [List.getElem_cons_succ]); (try simp only [List.getElem_cons_zero])
                    go_simp; done
                  (try simp only [List.getElem_toArray]); (try simp only [List.getElem_cons_succ]); (try simp only [List.getElem_cons_zero])
                  go_simp
                  obtain ⟨w3, hw3⟩ : ∃ q : World, (w2.alloc (.cells #[.int .i64 a] 3)) = q := ⟨_, rfl⟩
                  have hmw3 : Mod (fun _ => False) w2 w3 := hw3 ▸ (by exact ⟨(((Mod.refl (fun _ => False) w2).alloc _)).os, (((Mod.refl (fun _ => False) w2).alloc _)).tape, (((Mod.refl (fun _ => False) w2).alloc _)).output, (((Mod.refl (fun _ => False) w2).alloc _)).size, (((Mod.refl (fun _ => False) w2).alloc _)).block⟩)
                  have hrw3 : RdSl w3 1 (.slice (some ⟨w2.heap.size, 0, none⟩) 1 1) 1 [.int .i64 a] := hw3 ▸ RdSl.one w2 [.int .i64 a] 3 rfl
                  have hT3 := hT2.mod hmw3
                  have hM3 := hM2.trans hmw3 (fun _ _ h => h)
                  rw [hw3]
                  refine hK _ _ (fun _ h => ⟨hmw3.cell h.1 (fun h => h), hmw3.cell h.2.1 (fun h => h), hmw3.cell h.2.2 (fun h => h)⟩) ?_
                  clear hK K hw3
                  refine an_one (i := 29) (by kernel_rfl) (go_yes rfl ?_ (fun K hK => ?_))
                  · (try simp only [List.getElem_toArray]); (try simp only [List.getElem_cons_succ]); (try simp only [List.getElem_cons_zero])
                    go_simp; done
                  refine wp_append_sl (.tmp 124) (.tmp 126) 22 rfl 3 1 8 ints_T vb lb.length (ints lb) rfl (hT3.own b vb lb ((List.getElem?_set_ne Hab.out).trans Hvb.out) ((List.getElem?_set_ne Hab.out).trans Hlb.out)) (.slice (some ⟨w2.heap.size, 0, none⟩) 1 1) 1 [.int .i64 a] rfl (hrw3) (Hone1.out _) (by omega) (by unfold maxLen; omega) (fun w4ad w4cap w4 hw4A => ?_)
                  (try simp only [List.getElem_toArray]); (try simp only [List.getElem_cons_succ]); (try simp only [List.getElem_cons_zero])
                  go_simp
                  have hfw4 : ∀ k, inBlock vb k → wc.heap.size ≤ k := fun k hk => hT3.fresh b vb k ((List.getElem?_set_ne Hab.out).trans Hvb.out) hk
                  refine hK _ _ (fun _ h => ⟨hw4A.2.1.cell h.1 (fun h => ?_), hw4A.2.1.cell h.2.1 (fun h => ?_), hw4A.2.1.cell h.2.2 (fun h => ?_)⟩) ?_
                  · exact absurd (hfw4 _ h) (by show ¬ wc.heap.size ≤ wa.heap.size; omega)
                  · exact absurd (hfw4 _ h) (by show ¬ wc.heap.size ≤ w.heap.size; omega)
                  · exact absurd (hfw4 _ h) (by show ¬ wc.heap.size ≤ w.heap.size; omega)
                  clear hK K
                  have hT4 := hT3.app ((List.getElem?_set_ne Hab.out).trans Hvb.out) hw4A
                  have hM4 := hM3.upon hw4A.2.1 (fun b hb => .inr (by have := hfw4 b hb; omega))
                  refine an_one (i := 30) (by kernel_rfl) (go_yes rfl ?_ (fun K hK => ?_))
                  · (try simp only [List.getElem_toArray]); (try simp only [List.getElem_cons_succ]); (try simp only [List.getElem_cons_zero])
                    go_simp; done
                  (try simp only [List.getElem_toArray]); (try simp only [List.getElem_cons_succ]); (try simp only [List.getElem_cons_zero])
                  go_simp
                  refine hK _ _ (fun _ h => h) ?_
                  clear hK K
                  have c1 : w4.cell? ⟨w.heap.size, a, none⟩ = some va := (cell_of_row w4 w.heap.size a _ _ _ hT4.hg).trans (by simpa using Hva.out)
                  have z1 : w4.frozen? ⟨w.heap.size, a, none⟩ = false := fr_of hT4.hg
                  obtain ⟨u5, hu5⟩ : ∃ q, w4.setCell ⟨w.heap.size, a, none⟩ (.slice w2ad (la.length + 1) w2cap) = q := ⟨_, rfl⟩
                  have hT5 := hT4.store a (.slice w2ad (la.length + 1) w2cap)
                  have hM5 : Mod (fun _ => False) w (w4.setCell ⟨w.heap.size, a, none⟩ (.slice w2ad (la.length + 1) w2cap)) := hM4.setCell (fun h => by have h2 : w.heap.size < w.heap.size := h; omega) _
                  rw [hu5] at hT5 hM5
                  refine an_one (i := 31) (by kernel_rfl) (go_yes rfl ?_ (fun K hK => ?_))
                  · (try simp only [List.getElem_toArray]); (try simp only [List.getElem_cons_succ]); (try simp only [List.getElem_cons_zero])
                    go_simp; done
                  (try simp only [List.getElem_toArray]); (try simp only [List.getElem_cons_succ]); (try simp only [List.getElem_cons_zero])
                  go_simp
                  (try rw [hu5])
                  refine hK _ _ (fun h => absurd h (by decide)) ?_
                  clear hK K c1 z1 hu5
                  refine an_one (i := 32) (by kernel_rfl) (go_yes rfl ?_ (fun K hK => ?_))
                  · (try simp only [List.getElem_toArray]); (try simp only [List.getElem_cons_succ]); (try simp only [List.getElem_cons_zero])
                    go_simp; done
                  (try simp only [List.getElem_toArray]); (try simp only [List.getElem_cons_succ]); (try simp only [List.getElem_cons_zero])
                  go_simp
                  refine hK _ _ (fun _ h => h) ?_
                  clear hK K
                  have c2 : u5.cell? ⟨w.heap.size, b, none⟩ = some vb := (cell_of_row u5 w.heap.size b _ _ _ hT5.hg).trans (by simpa [List.getElem?_set_ne Hab.out] using Hvb.out)
                  have z2 : u5.frozen? ⟨w.heap.size, b, none⟩ = false := fr_of hT5.hg
                  obtain ⟨u6, hu6⟩ : ∃ q, u5.setCell ⟨w.heap.size, b, none⟩ (.slice w4ad (lb.length + 1) w4cap) = q := ⟨_, rfl⟩
                  have hT6 := hT5.store b (.slice w4ad (lb.length + 1) w4cap)
                  have hM6 : Mod (fun _ => False) w (u5.setCell ⟨w.heap.size, b, none⟩ (.slice w4ad (lb.length + 1) w4cap)) := hM5.setCell (fun h => by have h2 : w.heap.size < w.heap.size := h; omega) _
                  rw [hu6] at hT6 hM6
                  refine an_one (i := 33) (by kernel_rfl) (go_yes rfl ?_ (fun K hK => ?_))
                  · (try simp only [List.getElem_toArray]); (try simp only [List.getElem_cons_succ]); (try simp only [List.getElem_cons_zero])
                    go_simp; done
                  (try simp only [List.getElem_toArray]); (try simp only [List.getElem_cons_succ]); (try simp only [List.getElem_cons_zero])
                  go_simp
                  (try rw [hu6])
                  refine hK _ _ (fun h => absurd h (by decide)) ?_
                  clear hK K c2 z2 hu6
                  refine an_nil (by kernel_rfl) ?_
                  have hT7 : TB u6 wc.heap.size wa.heap.size w.heap.size wb.heap.size m ((vs.set a (.slice w2ad (la.length + 1) w2cap)).set b (.slice w4ad (lb.length + 1) w4cap)) ((vs.set a (.slice w2ad (la.length + 1) w2cap)).set b (.slice w4ad (lb.length + 1) w4cap)) (s.step a b).near (s.step a b).root := by rw [Hstep.out]; exact hT6
                  have HT7 := Lib.hid hT7
                  have HM6 := Lib.hid hM6
                  clear hT7 hM6
                  go_wp2_with fail
                  go_roundw
                  case rel => exact ⟨j + 1, _, s.step a b, by go_num, hlt, Hgo2.out, Hnl2.out, HT7.out, HM6.out⟩
                  case measure => simp [intOf]; omega
                · (try simp only [List.getElem_toArray]); (try simp only [List.getElem_cons_succ]); (try simp only [List.getElem_cons_zero])
                  go_simp; done
                · (try simp only [List.getElem_toArray]); (try simp only [List.getElem_cons_succ]); (try simp only [List.getElem_cons_zero])
                  go_simp
                  obtain ⟨w2, hw2⟩ : ∃ q : World, (w1.alloc (.cells #[.int .i64 a] 3)) = q := ⟨_, rfl⟩
                  have hmw2 : Mod (fun _ => False) w1 w2 := hw2 ▸ (by exact ⟨(((Mod.refl (fun _ => False) w1).alloc _)).os, (((Mod.refl (fun _ => False) w1).alloc _)).tape, (((Mod.refl (fun _ => False) w1).alloc _)).output, (((Mod.refl (fun _ => False) w1).alloc _)).size, (((Mod.refl (fun _ => False) w1).alloc _)).block⟩)
                  have hrw2 : RdSl w2 1 (.slice (some ⟨w1.heap.size, 0, none⟩) 1 1) 1 [.int .i64 a] := hw2 ▸ RdSl.one w1 [.int .i64 a] 3 rfl
                  have hT2 := hT1.mod hmw2
                  have hM2 := hM1.trans hmw2 (fun _ _ h => h)
                  rw [hw2]
                  refine hK _ _ (fun _ h => ⟨hmw2.cell h.1 (fun h => h), hmw2.cell h.2.1 (fun h => h), hmw2.cell h.2.2 (fun h => h)⟩) ?_
                  clear hK K hw2
                  refine an_one (i := 19) (by kernel_rfl) (go_yes rfl ?_ (fun K hK => ?_))
                  · (try simp only [List.getElem_toArray]); (try simp only [List.getElem_cons_succ]); (try simp only [List.getElem_cons_zero])
                    go_simp; done
                  refine wp_append_sl (.tmp 114) (.tmp 116) 22 rfl 3 1 8 ints_T va la.length (ints la) rfl (hT2.own a va la (Hva.out) (Hla.out)) (.slice (some ⟨wf.heap.size, 0, none⟩) 1 1) 1 [.int .i64 b] rfl (hrw1.mod hmw2 (fun _ _ h => h)) (Hone1.out _) (by omega) (by unfold maxLen; omega) (fun w3ad w3cap w3 hw3A => ?_)
                  (try simp only [List.getElem_toArray]); (try simp only [List.getElem_cons_succ]); (try simp only [List.getElem_cons_zero])
                  go_simp
                  have hfw3 : ∀ k, inBlock va k → wc.heap.size ≤ k := fun k hk => hT2.fresh a va k (Hva.out) hk
                  refine hK _ _ (fun _ h => ⟨hw3A.2.1.cell h.1 (fun h => ?_), hw3A.2.1.cell h.2.1 (fun h => ?_), hw3A.2.1.cell h.2.2 (fun h => ?_)⟩) ?_
                  · exact absurd (hfw3 _ h) (by show ¬ wc.heap.size ≤ wa.heap.size; omega)
                  · exact absurd (hfw3 _ h) (by show ¬ wc.heap.size ≤ w.heap.size; omega)
                  · exact absurd (hfw3 _ h) (by show ¬ wc.heap.size ≤ w.heap.size; omega)
                  clear hK K
                  have hT3 := hT2.app (Hva.out) hw3A
                  have hM3 := hM2.upon hw3A.2.1 (fun b hb => .inr (by have := hfw3 b hb; omega))
                  refine an_one (i := 29) (by kernel_rfl) (go_yes rfl ?_ (fun K hK => ?_))
                  · (try simp only [List.getElem_toArray]); (try simp only [List.getElem_cons_succ]); (try simp only [List.getElem_cons_zero])
                    go_simp; done
                  have hsz := hmw1.size
                  have hsz2 : wf.heap.size ≤ w1.heap.size := hsz
                  refine wp_append_sl (.tmp 124) (.tmp 126) 22 rfl 3 1 8 ints_T vb lb.length (ints lb) rfl (hT3.own b vb lb ((List.getElem?_set_ne Hab.out).trans Hvb.out) ((List.getElem?_set_ne Hab.out).trans Hlb.out)) (.slice (some ⟨w1.heap.size, 0, none⟩) 1 1) 1 [.int .i64 a] rfl (hrw2.mod hw3A.2.1 (fun q hq hin => absurd (HownA.out.lt q hin) (by cases hq; show ¬ w1.heap.size < wf.heap.size; omega))) (Hone1.out _) (by omega) (by unfold maxLen; omega) (fun w4ad w4cap w4 hw4A => ?_)
                  (try simp only [List.getElem_toArray]); (try simp only [List.getElem_cons_succ]); (try simp only [List.getElem_cons_zero])
                  go_simp
                  have hfw4 : ∀ k, inBlock vb k → wc.heap.size ≤ k := fun k hk => hT3.fresh b vb k ((List.getElem?_set_ne Hab.out).trans Hvb.out) hk
                  refine hK _ _ (fun _ h => ⟨hw4A.2.1.cell h.1 (fun h => ?_), hw4A.2.1.cell h.2.1 (fun h => ?_), hw4A.2.1.cell h.2.2 (fun h => ?_)⟩) ?_
                  · exact absurd (hfw4 _ h) (by show ¬ wc.heap.size ≤ wa.heap.size; omega)
                  · exact absurd (hfw4 _ h) (by show ¬ wc.heap.size ≤ w.heap.size; omega)
                  · exact absurd (hfw4 _ h) (by show ¬ wc.heap.size ≤ w.heap.size; omega)
                  clear hK K
                  have hT4 := hT3.app ((List.getElem?_set_ne Hab.out).trans Hvb.out) hw4A
                  have hM4 := hM3.upon hw4A.2.1 (fun b hb => .inr (by have := hfw4 b hb; omega))
                  refine an_one (i := 30) (by kernel_rfl) (go_yes rfl ?_ (fun K hK => ?_))
                  · (try simp only [List.getElem_toArray]); (try simp only [List.getElem_cons_succ]); (try simp only [List.getElem_cons_zero])
                    go_simp; done
                  (try simp only [List.getElem_toArray]); (try simp only [List.getElem_cons_succ]); (try simp only [List.getElem_cons_zero])
                  go_simp
                  refine hK _ _ (fun _ h => h) ?_
                  clear hK K
                  have c1 : w4.cell? ⟨w.heap.size, a, none⟩ = some va := (cell_of_row w4 w.heap.size a _ _ _ hT4.hg).trans (by simpa using Hva.out)
                  have z1 : w4.frozen? ⟨w.heap.size, a, none⟩ = false := fr_of hT4.hg
                  obtain ⟨u5, hu5⟩ : ∃ q, w4.setCell ⟨w.heap.size, a, none⟩ (.slice w3ad (la.length + 1) w3cap) = q := ⟨_, rfl⟩
                  have hT5 := hT4.store a (.slice w3ad (la.length + 1) w3cap)
                  have hM5 : Mod (fun _ => False) w (w4.setCell ⟨w.heap.size, a, none⟩ (.slice w3ad (la.length + 1) w3cap)) := hM4.setCell (fun h => by have h2 : w.heap.size < w.heap.size := h; omega) _
                  rw [hu5] at hT5 hM5
                  refine an_one (i := 31) (by kernel_rfl) (go_yes rfl ?_ (fun K hK => ?_))
                  · (try simp only [List.getElem_toArray]); (try simp only [List.getElem_cons_succ]); (try simp only [List.getElem_cons_zero])
                    go_simp; done
                  (try simp only [List.getElem_toArray]); (try simp only [List.getElem_cons_succ]); (try simp only [List.getElem_cons_zero])
                  go_simp
                  (try rw [hu5])
                  refine hK _ _ (fun h => absurd h (by decide)) ?_
                  clear hK K c1 z1 hu5
                  refine an_one (i := 32) (by kernel_rfl) (go_yes rfl ?_ (fun K hK => ?_))
                  · (try simp only [List.getElem_toArray]); (try simp only [List.getElem_cons_succ]); (try simp only [List.getElem_cons_zero])
                    go_simp; done
                  (try simp only [List.getElem_toArray]); (try simp only [List.getElem_cons_succ]); (try simp only [List.getElem_cons_zero])
                  go_simp
                  refine hK _ _ (fun _ h => h) ?_
                  clear hK K
                  have c2 : u5.cell? ⟨w.heap.size, b, none⟩ = some vb := (cell_of_row u5 w.heap.size b _ _ _ hT5.hg).trans (by simpa [List.getElem?_set_ne Hab.out] using Hvb.out)
                  have z2 : u5.frozen? ⟨w.heap.size, b, none⟩ = false := fr_of hT5.hg
                  obtain ⟨u6, hu6⟩ : ∃ q, u5.setCell ⟨w.heap.size, b, none⟩ (.slice w4ad (lb.length + 1) w4cap) = q := ⟨_, rfl⟩
                  have hT6 := hT5.store b (.slice w4ad (lb.length + 1) w4cap)
                  have hM6 : Mod (fun _ => False) w (u5.setCell ⟨w.heap.size, b, none⟩ (.slice w4ad (lb.length + 1) w4cap)) := hM5.setCell (fun h => by have h2 : w.heap.size < w.heap.size := h; omega) _
                  rw [hu6] at hT6 hM6
                  refine an_one (i := 33) (by kernel_rfl) (go_yes rfl ?_ (fun K hK => ?_))
                  · (try simp only [List.getElem_toArray]); (try simp only [List.getElem_cons_succ]); (try simp only [List.getElem_cons_zero])
                    go_simp; done
                  (try simp only [List.getElem_toArray]); (try simp only [List.getElem_cons_succ]); (try simp only [List.getElem_cons_zero])
                  go_simp
                  (try rw [hu6])
                  refine hK _ _ (fun h => absurd h (by decide)) ?_
                  clear hK K c2 z2 hu6
                  refine an_nil (by kernel_rfl) ?_
                  have hT7 : TB u6 wc.heap.size wa.heap.size w.heap.size wb.heap.size m ((vs.set a (.slice w3ad (la.length + 1) w3cap)).set b (.slice w4ad (lb.length + 1) w4cap)) ((vs.set a (.slice w3ad (la.length + 1) w3cap)).set b (.slice w4ad (lb.length + 1) w4cap)) (s.step a b).near (s.step a b).root := by rw [Hstep.out]; exact hT6
                  have HT7 := Lib.hid hT7
                  have HM6 := Lib.hid hM6
                  clear hT7 hM6
                  go_wp2_with fail
                  go_roundw
                  case rel => exact ⟨j + 1, _, s.step a b, by go_num, hlt, Hgo2.out, Hnl2.out, HT7.out, HM6.out⟩
                  case measure => simp [intOf]; omega
              · (try simp only [List.getElem_toArray]); (try simp only [List.getElem_cons_succ]); (try simp only [List.getElem_cons_zero])
                go_simp; done
              · (try simp only [List.getElem_toArray]); (try simp only [List.getElem_cons_succ]); (try simp only [List.getElem_cons_zero])
                go_simp
                obtain ⟨w1, hw1⟩ : ∃ q : World, (wf.alloc (.cells #[.int .i64 a] 3)).drew = q := ⟨_, rfl⟩
                have hmw1 : Mod (fun _ => False) wf.drew w1 := hw1 ▸ (by exact ⟨(((Mod.refl (fun _ => False) wf).alloc _).drew).os, (((Mod.refl (fun _ => False) wf).alloc _).drew).tape, (((Mod.refl (fun _ => False) wf).alloc _).drew).output, (((Mod.refl (fun _ => False) wf).alloc _).drew).size, (((Mod.refl (fun _ => False) wf).alloc _).drew).block⟩)
                have hrw1 : RdSl w1 1 (.slice (some ⟨wf.heap.size, 0, none⟩) 1 1) 1 [.int .i64 a] := hw1 ▸ RdSl.oneD wf [.int .i64 a] 3 rfl
                have hT1 := HTd.out.mod hmw1
                have hM1 := Hmd.out.trans hmw1 (fun _ _ h => h)
                rw [hw1]
                refine hK _ _ (fun _ h => ⟨hmw1.cell h.1 (fun h => h), hmw1.cell h.2.1 (fun h => h), hmw1.cell h.2.2 (fun h => h)⟩) ?_
                clear hK K hw1
                refine an_one (i := 18) (by kernel_rfl) (go_yes rfl ?_ (fun K hK => ?_))
                · (try simp only [List.getElem_toArray]); (try simp only [List.getElem_cons_succ]); (try simp only [List.getElem_cons_zero])
                  go_simp; done
                (try simp only [List.getElem_toArray]); (try simp only [List.getElem_cons_succ]); (try simp only [List.getElem_cons_zero])
                go_simp
                obtain ⟨w2, hw2⟩ : ∃ q : World, (w1.alloc (.cells #[.int .i64 b] 3)) = q := ⟨_, rfl⟩
                have hmw2 : Mod (fun _ => False) w1 w2 := hw2 ▸ (by exact ⟨(((Mod.refl (fun _ => False) w1).alloc _)).os, (((Mod.refl (fun _ => False) w1).alloc _)).tape, (((Mod.refl (fun _ => False) w1).alloc _)).output, (((Mod.refl (fun _ => False) w1).alloc _)).size, (((Mod.refl (fun _ => False) w1).alloc _)).block⟩)
                have hrw2 : RdSl w2 1 (.slice (some ⟨w1.heap.size, 0, none⟩) 1 1) 1 [.int .i64 b] := hw2 ▸ RdSl.one w1 [.int .i64 b] 3 rfl
                have hT2 := hT1.mod hmw2
                have hM2 := hM1.trans hmw2 (fun _ _ h => h)
                rw [hw2]
                refine hK _ _ (fun _ h => ⟨hmw2.cell h.1 (fun h => h), hmw2.cell h.2.1 (fun h => h), hmw2.cell h.2.2 (fun h => h)⟩) ?_
                clear hK K hw2
                refine an_one (i := 19) (by kernel_rfl) (go_yes rfl ?_ (fun K hK => ?_))
                · (try simp only [List.getElem_toArray]); (try simp only [List.getElem_cons_succ]); (try simp only [List.getElem_cons_zero])
                  go_simp; done
                refine wp_append_sl (.tmp 114) (.tmp 116) 22 rfl 3 1 8 ints_T va la.length (ints la) rfl (hT2.own a va la (Hva.out) (Hla.out)) (.slice (some ⟨w1.heap.size, 0, none⟩) 1 1) 1 [.int .i64 b] rfl (hrw2) (Hone1.out _) (by omega) (by unfold maxLen; omega) (fun w3ad w3cap w3 hw3A => ?_)
                (try simp only [List.getElem_toArray]); (try simp only [List.getElem_cons_succ]); (try simp only [List.getElem_cons_zero])
                go_simp
                have hfw3 : ∀ k, inBlock va k → wc.heap.size ≤ k := fun k hk => hT2.fresh a va k (Hva.out) hk
                refine hK _ _ (fun _ h => ⟨hw3A.2.1.cell h.1 (fun h => ?_), hw3A.2.1.cell h.2.1 (fun h => ?_), hw3A.2.1.cell h.2.2 (fun h => ?_)⟩) ?_
                · exact absurd (hfw3 _ h) (by show ¬ wc.heap.size ≤ wa.heap.size; omega)
                · exact absurd (hfw3 _ h) (by show ¬ wc.heap.size ≤ w.heap.size; omega)
                · exact absurd (hfw3 _ h) (by show ¬ wc.heap.size ≤ w.heap.size; omega)
                clear hK K
                have hT3 := hT2.app (Hva.out) hw3A
                have hM3 := hM2.upon hw3A.2.1 (fun b hb => .inr (by have := hfw3 b hb; omega))
                refine an_one (i := 29) (by kernel_rfl) (go_yes rfl ?_ (fun K hK => ?_))
                · (try simp only [List.getElem_toArray]); (try simp only [List.getElem_cons_succ]); (try simp only [List.getElem_cons_zero])
                  go_simp; done
                refine wp_append_sl (.tmp 124) (.tmp 126) 22 rfl 3 1 8 ints_T vb lb.length (ints lb) rfl (hT3.own b vb lb ((List.getElem?_set_ne Hab.out).trans Hvb.out) ((List.getElem?_set_ne Hab.out).trans Hlb.out)) (.slice (some ⟨wf.heap.size, 0, none⟩) 1 1) 1 [.int .i64 a] rfl ((hrw1.mod hmw2 (fun _ _ h => h)).mod hw3A.2.1 (fun q hq hin => absurd (HownA.out.lt q hin) (by cases hq; show ¬ wf.heap.size < wf.heap.size; omega))) (Hone1.out _) (by omega) (by unfold maxLen; omega) (fun w4ad w4cap w4 hw4A => ?_)
                (try simp only [List.getElem_toArray]); (try simp only [List.getElem_cons_succ]); (try simp only [List.getElem_cons_zero])
                go_simp
                have hfw4 : ∀ k, inBlock vb k → wc.heap.size ≤ k := fun k hk => hT3.fresh b vb k ((List.getElem?_set_ne Hab.out).trans Hvb.out) hk
                refine hK _ _ (fun _ h => ⟨hw4A.2.1.cell h.1 (fun h => ?_), hw4A.2.1.cell h.2.1 (fun h => ?_), hw4A.2.1.cell h.2.2 (fun h => ?_)⟩) ?_
                · exact absurd (hfw4 _ h) (by show ¬ wc.heap.size ≤ wa.heap.size; omega)
                · exact absurd (hfw4 _ h) (by show ¬ wc.heap.size ≤ w.heap.size; omega)
                · exact absurd (hfw4 _ h) (by show ¬ wc.heap.size ≤ w.heap.size; omega)
                clear hK K
                have hT4 := hT3.app ((List.getElem?_set_ne Hab.out).trans Hvb.out) hw4A
                have hM4 := hM3.upon hw4A.2.1 (fun b hb => .inr (by have := hfw4 b hb; omega))
                refine an_one (i := 30) (by kernel_rfl) (go_yes rfl ?_ (fun K hK => ?_))
                · (try simp only [List.getElem_toArray]); (try simp only [List.getElem_cons_succ]); (try simp only [List.getElem_cons_zero])
                  go_simp; done
                (try simp only [List.getElem_toArray]); (try simp only [List.getElem_cons_succ]); (try simp only [List.getElem_cons_zero])
                go_simp
                refine hK _ _ (fun _ h => h) ?_
                clear hK K
                have c1 : w4.cell? ⟨w.heap.size, a, none⟩ = some va := (cell_of_row w4 w.heap.size a _ _ _ hT4.hg).trans (by simpa using Hva.out)
                have z1 : w4.frozen? ⟨w.heap.size, a, none⟩ = false := fr_of hT4.hg
                obtain ⟨u5, hu5⟩ : ∃ q, w4.setCell ⟨w.heap.size, a, none⟩ (.slice w3ad (la.length + 1) w3cap) = q := ⟨_, rfl⟩
                have hT5 := hT4.store a (.slice w3ad (la.length + 1) w3cap)
                have hM5 : Mod (fun _ => False) w (w4.setCell ⟨w.heap.size, a, none⟩ (.slice w3ad (la.length + 1) w3cap)) := hM4.setCell (fun h => by have h2 : w.heap.size < w.heap.size := h; omega) _
                rw [hu5] at hT5 hM5
                refine an_one (i := 31) (by kernel_rfl) (go_yes rfl ?_ (fun K hK => ?_))
                · (try simp only [List.getElem_toArray]); (try simp only [List.getElem_cons_succ]); (try simp only [List.getElem_cons_zero])
                  go_simp; done
                (try simp only [List.getElem_toArray]); (try simp only [List.getElem_cons_succ]); (try simp only [List.getElem_cons_zero])
                go_simp
                (try rw [hu5])
                refine hK _ _ (fun h => absurd h (by decide)) ?_
                clear hK K c1 z1 hu5
                refine an_one (i := 32) (by kernel_rfl) (go_yes rfl ?_ (fun K hK => ?_))
                · (try simp only [List.getElem_toArray]); (try simp only [List.getElem_cons_succ]); (try simp only [List.getElem_cons_zero])
                  go_simp; done
                (try simp only [List.getElem_toArray]); (try simp only [List.getElem_cons_succ]); (try simp only [List.getElem_cons_zero])
                go_simp
                refine hK _ _ (fun _ h => h) ?_
                clear hK K
                have c2 : u5.cell? ⟨w.heap.size, b, none⟩ = some vb := (cell_of_row u5 w.heap.size b _ _ _ hT5.hg).trans (by simpa [List.getElem?_set_ne Hab.out] using Hvb.out)
                have z2 : u5.frozen? ⟨w.heap.size, b, none⟩ = false := fr_of hT5.hg
                obtain ⟨u6, hu6⟩ : ∃ q, u5.setCell ⟨w.heap.size, b, none⟩ (.slice w4ad (lb.length + 1) w4cap) = q := ⟨_, rfl⟩
                have hT6 := hT5.store b (.slice w4ad (lb.length + 1) w4cap)
                have hM6 : Mod (fun _ => False) w (u5.setCell ⟨w.heap.size, b, none⟩ (.slice w4ad (lb.length + 1) w4cap)) := hM5.setCell (fun h => by have h2 : w.heap.size < w.heap.size := h; omega) _
                rw [hu6] at hT6 hM6
                refine an_one (i := 33) (by kernel_rfl) (go_yes rfl ?_ (fun K hK => ?_))
                · (try simp only [List.getElem_toArray]); (try simp only [List.getElem_cons_succ]); (try simp only [List.getElem_cons_zero])
                  go_simp; done
                (try simp only [List.getElem_toArray]); (try simp only [List.getElem_cons_succ]); (try simp only [List.getElem_cons_zero])
                go_simp
                (try rw [hu6])
                refine hK _ _ (fun h => absurd h (by decide)) ?_
                clear hK K c2 z2 hu6
                refine an_nil (by kernel_rfl) ?_
                have hT7 : TB u6 wc.heap.size wa.heap.size w.heap.size wb.heap.size m ((vs.set a (.slice w3ad (la.length + 1) w3cap)).set b (.slice w4ad (lb.length + 1) w4cap)) ((vs.set a (.slice w3ad (la.length + 1) w3cap)).set b (.slice w4ad (lb.length + 1) w4cap)) (s.step a b).near (s.step a b).root := by rw [Hstep.out]; exact hT6
                have HT7 := Lib.hid hT7
                have HM6 := Lib.hid hM6
                clear hT7 hM6
                go_wp2_with fail
                go_roundw
                case rel => exact ⟨j + 1, _, s.step a b, by go_num, hlt, Hgo2.out, Hnl2.out, HT7.out, HM6.out⟩
                case measure => simp [intOf]; omega
        · obtain rfl : ps.length = j := by omega
          rw [List.take_length] at hgo
          have hTP := hTB
          have hmP := hmr
          clear hTB hmr
          have hn0 := Hnt.out
          rw [hgo, if_pos rfl] at hn0
          by_cases hpn : (ps.length : Int) = m - 1
          · rw [if_pos hpn] at hn0
            subst hn0
            have hne : ((ps.length : Int) != (m : Int) - 1) = false := by rw [hpn]; simp
            have ct : wo.cell? ⟨wa.heap.size, 0, none⟩ = some (.slice (some ⟨w.heap.size, 0, none⟩) m m) := cell_of hTP.ht rfl
            have HTP := Lib.hid hTP
            have HmP := Lib.hid hmP
            have Hgo := Lib.hid hgo
            clear hTP hmP hgo HTB Hmr
            go_wp2_with fail
            go_loopw [141] (fun i wr => ∃ k : Nat, i = .int .i64 k ∧ k ≤ m ∧ TB wr wc.heap.size wa.heap.size w.heap.size wb.heap.size m vs vs (part sortI k s.near) s.root ∧ Mod (fun _ => False) w wr) (fun i _ => m - (intOf i).toNat)
            case atStart => exact ⟨0, rfl, Nat.zero_le _, by rw [part_zero]; exact HTP.out, HmP.out⟩
            case round =>
              obtain ⟨wf, rfl⟩ : ∃ wf : World, wf = wr := ⟨_, rfl⟩
              obtain ⟨k, rfl, hk, hTk, hmk⟩ := hrel
              by_cases hlk : k < m
              · have hlk' : (k : Int) < m := by omega
                obtain ⟨y, hy⟩ : ∃ v, vs[k]? = some v := ⟨_, List.getElem?_eq_getElem (by have := hTk.lv; omega)⟩
                obtain ⟨l, hl⟩ : ∃ v, s.near[k]? = some v := ⟨_, List.getElem?_eq_getElem (by have := HTP.out.ln; omega)⟩
                have c : wf.cell? ⟨w.heap.size, k, none⟩ = some y := (cell_of_row wf w.heap.size k _ _ _ hTk.hg).trans (by simpa using hy)
                have hl1 := Hnl.out l (List.mem_of_getElem? hl)
                have hso := sort_own wf y l (hTk.own k y l hy (part_at hl)) (by omega)
                have hput : ∀ w', OwnSl w' 3 1 y l.length (ints (sortI l)) → Mod (inBlock y) wf w' → TB w' wc.heap.size wa.heap.size w.heap.size wb.heap.size m vs vs (part sortI (k + 1) s.near) s.root ∧ Mod (fun _ => False) w w' := fun w' ho hm => by
                  have h1 := hTk.put (l := sortI l) hy (by rw [sortI_length]; exact ho) hm
                  rw [part_set hl] at h1
                  exact ⟨h1, hmk.upon hm (fun b hb => .inr (by have := hTk.fresh k y b hy hb; omega))⟩
                have Hso := Lib.hid hso
                have Hput := Lib.hid hput
                clear hso hput hTk hmk hy hl hl1
                go_wp2_with fail
                refine Hso.out.mono ?_
                rintro e w2 ⟨rfl, ho, hm2⟩
                obtain ⟨hT2, hM2⟩ := Hput.out w2 ho hm2
                have HT2 := Lib.hid hT2
                have HM2 := Lib.hid hM2
                clear hT2 hM2 ho hm2 Hso Hput
                go_wp2_with fail
                go_roundw
                case rel => exact ⟨k + 1, by go_num, hlk, HT2.out, HM2.out⟩
                case measure => simp [intOf]; omega
              · obtain rfl : m = k := by omega
                have hpa : part sortI m s.near = s.near.map sortI := by
                  have := part_all sortI s.near
                  rw [HTP.out.ln] at this
                  exact this
                rw [hpa] at hTk
                have hTT := hTk.tree
                have HTk := Lib.hid hTk
                have Hmk := Lib.hid hmk
                have HTT := Lib.hid hTT
                clear hTk hmk hTT hpa HTP HmP
                go_wp2
                go_ret2
                exact ⟨_, rfl, fun h => absurd rfl h, fun _ => ⟨wa.heap.size, rfl, by omega, HTT.out⟩, Hmk.out⟩
          · rw [if_neg hpn] at hn0
            subst hn0
            have hne : ((ps.length : Int) != (m : Int) - 1) = true := by rw [bne_iff_ne]; exact hpn
            have HmP := Lib.hid hmP
            clear hmP hTP HTB Hmr hgo
            go_wp2
            go_ret2
            exact ⟨.pointer none, rfl, fun _ => rfl, fun h => absurd h (by decide), HmP.out⟩
end Go.Proofs.Ytnckccpcpndcmaa
