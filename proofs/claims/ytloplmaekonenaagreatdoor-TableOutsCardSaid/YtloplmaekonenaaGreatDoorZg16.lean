/-
  Conditions in memory, and whether one may be.
  The texts of values, conditions and filters: unlike for unlike ones (the plain law).
-/
import Derived.Test.YtloplmaekonenaaGreatDoorZg15
import Derived.Test.YtloplmaekonenaaGreatDoorZg13
import Derived.Test.YtloplmaekonenaaGreatDoorZg14
import Derived.Lib.PrintData
namespace Go.Proofs.YtloplmaekonenaaGreatDoor
set_option maxRecDepth 20000
open Go.RowKit

/-- A condition. -/
structure Cnd where
  name : ByteArray
  op : Int
  v : V
def Cnd.cells (a : Cnd) : List Value := .string a.name :: .int .i64 a.op :: a.v.cells
theorem Cnd.cells_length (a : Cnd) : a.cells.length = 7 := rfl
def cnds (l : List Cnd) : List Value := l.flatMap Cnd.cells
theorem cnds_at (l : List Cnd) {k j : Nat} {a : Cnd} {u : Value} (h : l[k]? = some a) (hj : a.cells[j]? = some u) : (cnds l)[7 * k + j]? = some u := by
  induction l generalizing k with
  | nil => simp at h
  | cons b l ih =>
    unfold cnds at ih ⊢
    rw [List.flatMap_cons]
    cases k with
    | zero =>
      simp only [List.getElem?_cons_zero, Option.some.injEq] at h
      subst h
      have := (List.getElem?_eq_some_iff.1 hj).1
      rw [List.getElem?_append_left (by omega), Nat.mul_zero, Nat.zero_add, hj]
    | succ k =>
      rw [List.getElem?_cons_succ] at h
      rw [List.getElem?_append_right (by rw [Cnd.cells_length]; omega), Cnd.cells_length, show 7 * (k + 1) + j - 7 = 7 * k + j by omega]
      exact ih h
theorem cells_from2 {w : World} {g : Nat} {x : Cnd} {t : TypeId} (h : w.heap[g]? = some (.cells x.cells.toArray t (0, 0))) : CellsAt w g 2 x.v.cells := fun j u hu => by
  have := CellsAt.row h (j + 2) u (by simpa [Cnd.cells] using hu)
  rw [show 2 + j = 0 + (j + 2) by omega]
  exact this


theorem cnds_append (l m : List Cnd) : cnds (l ++ m) = cnds l ++ cnds m := by unfold cnds; simp
theorem cnd_size : (Tryz.prog.info? 81).map (·.size) = some 7 := by kernel_rfl
/-- An element of what reads as conditions. -/
theorem rd_cnd {w : World} {a : Option Addr} {cap : Nat} {l : List Cnd} {j : Nat} {x : Cnd} (h : RdSl w 7 (.slice a l.length cap) l.length (cnds l)) (hx : l[j]? = some x) : ∃ g off, a = some ⟨g, off, none⟩ ∧ CellsAt w g (off + j * 7) x.cells := by
  obtain ⟨-, a', c', h1, -, h3, h4⟩ := h
  cases h1
  cases a with
  | none => have := (List.getElem?_eq_some_iff.1 hx).1; exact absurd (h3 rfl) (by omega)
  | some b =>
    obtain ⟨g', off', h5, h6⟩ := h4 _ rfl (by have := (List.getElem?_eq_some_iff.1 hx).1; omega)
    refine ⟨g', off', by rw [h5], fun i u hu => ?_⟩
    have := h6 (7 * j + i) u (cnds_at _ hx hu)
    rw [show off' + j * 7 + i = off' + (7 * j + i) by omega]
    exact this

def Cnd.rightB (c : Cnd) : Bool := isName c.name && (decide (0 ≤ c.op) && (decide (c.op ≤ 7) && c.v.right))

set_option maxHeartbeats 1000000 in
theorem cond_right (c : Cnd) (hn : c.name.size ≤ 9223372036854775807) (w : World) : Calls Tryz.prog 52 #[.agg c.cells.toArray] w fun e w' => e = .returned (.bool c.rightB) ∧ Mod (fun _ => False) w w' := by
  obtain ⟨wa, hwa⟩ : ∃ wa : World, w.alloc (.cells c.cells.toArray 81) = wa := ⟨_, rfl⟩
  have hmwa : Mod (fun _ => False) w wa := hwa ▸ (Mod.refl (fun _ => False) w).alloc _
  have hgwa := heap_alloc_new w (.cells c.cells.toArray 81)
  rw [hwa] at hgwa
  have hzwa : wa.heap.size = w.heap.size + 1 := by rw [← hwa]; simp
  have c0 : wa.cell? ⟨w.heap.size, 0, none⟩ = some (.string c.name) := cell_of hgwa rfl
  have c1 : wa.cell? ⟨w.heap.size, 1, none⟩ = some (.int .i64 c.op) := cell_of hgwa rfl
  have c2 : wa.cell? ⟨w.heap.size, 2, none⟩ = some (.int .i64 c.v.kind) := cell_of hgwa rfl
  have c3 : wa.cell? ⟨w.heap.size, 3, none⟩ = some (.int .i64 c.v.int) := cell_of hgwa rfl
  have c4 : wa.cell? ⟨w.heap.size, 4, none⟩ = some (.float .f64 c.v.num) := cell_of hgwa rfl
  have c5 : wa.cell? ⟨w.heap.size, 5, none⟩ = some (.string c.v.text) := cell_of hgwa rfl
  have c6 : wa.cell? ⟨w.heap.size, 6, none⟩ = some (.bool c.v.yes) := cell_of hgwa rfl
  have hnm := name_at c.name (by omega) wa
  have Hnm := Lib.hid hnm
  have Hwa := Lib.hid hwa
  have Hmwa := Lib.hid hmwa
  clear hnm hwa hmwa hgwa hzwa hn
  cases h1 : isName c.name with
  | false =>
    rw [show c.rightB = false by unfold Cnd.rightB; rw [h1]; rfl]
    rw [h1] at Hnm
    clear h1
    go_enter Tryz.func52, Tryz.ntmps52
    go_wp2_with (first | (rw [show w.alloc _ = wa from Hwa.out]) | fail)
    refine Hnm.out.mono ?_
    rintro e w' ⟨rfl, rfl⟩
    go_wp2
    go_ret
    exact ⟨rfl, Hmwa.out⟩
  | true =>
    rw [show c.rightB = (decide (0 ≤ c.op) && (decide (c.op ≤ 7) && c.v.right)) by unfold Cnd.rightB; rw [h1]; rfl]
    rw [h1] at Hnm
    clear h1
    by_cases h2 : 0 ≤ c.op
    rotate_left
    · have h2' : c.op < 0 := by omega
      rw [show (decide (0 ≤ c.op) && (decide (c.op ≤ 7) && c.v.right)) = false by rw [decide_eq_false h2, Bool.false_and]]
      clear h2
      go_enter Tryz.func52, Tryz.ntmps52
      go_wp2_with (first | (rw [show w.alloc _ = wa from Hwa.out]) | fail)
      refine Hnm.out.mono ?_
      rintro e w' ⟨rfl, rfl⟩
      go_wp2
      go_ret
      exact ⟨rfl, Hmwa.out⟩
    by_cases h3 : c.op ≤ 7
    rotate_left
    · have h3' : 7 < c.op := by omega
      rw [show (decide (0 ≤ c.op) && (decide (c.op ≤ 7) && c.v.right)) = false by rw [decide_eq_false h3, Bool.false_and, Bool.and_false]]
      clear h3
      go_enter Tryz.func52, Tryz.ntmps52
      go_wp2_with (first | (rw [show w.alloc _ = wa from Hwa.out]) | fail)
      refine Hnm.out.mono ?_
      rintro e w' ⟨rfl, rfl⟩
      go_wp2
      go_ret
      exact ⟨rfl, Hmwa.out⟩
    rw [show (decide (0 ≤ c.op) && (decide (c.op ≤ 7) && c.v.right)) = c.v.right by rw [decide_eq_true h2, decide_eq_true h3, Bool.true_and, Bool.true_and]]
    have hvr := value_right c.v wa
    have Hvr := Lib.hid hvr
    clear hvr
    go_enter Tryz.func52, Tryz.ntmps52
    go_wp2_with (first | (rw [show w.alloc _ = wa from Hwa.out]) | fail)
    refine Hnm.out.mono ?_
    rintro e w' ⟨rfl, rfl⟩
    go_wp2_with fail
    refine Hvr.out.mono ?_
    rintro e w2 ⟨rfl, hm2⟩
    have Hm2 := Lib.hid (Hmwa.out.trans hm2 (fun _ _ h => h))
    clear hm2
    go_wp2
    go_ret
    exact ⟨rfl, Hm2.out⟩

def filRight (sc : ByteArray) (l : List Cnd) : Bool := l.all Cnd.rightB && (scRight sc && decide (l.length ≤ 6))

set_option maxHeartbeats 2000000 in
theorem filter_right (w : World) (sc : ByteArray) (av : Value) (l : List Cnd) (hv : RdSl w 7 av l.length (cnds l)) (hll : l.length ≤ 9223372036854775807) (hsc : sc.size ≤ 9223372036854775807) (hn : ∀ c ∈ l, c.name.size ≤ 9223372036854775807) :
    Calls Tryz.prog 20 #[.agg #[.string sc, av]] w fun e w' => e = .returned (.bool (filRight sc l)) ∧ Mod (fun _ => False) w w' := by
  obtain ⟨a, cap, rfl, hcap⟩ : ∃ a c, av = .slice a l.length c ∧ l.length ≤ c := by obtain ⟨-, a, c, h, h2, -⟩ := hv; exact ⟨a, c, h, h2⟩
  have hll' : (l.length : Int) ≤ 9223372036854775807 := by omega
  have hcap' : (l.length : Int) ≤ cap := by omega
  obtain ⟨wa, hwa⟩ : ∃ wa : World, w.alloc (.cells #[.string sc, .slice a l.length cap] 29) = wa := ⟨_, rfl⟩
  have hmwa : Mod (fun _ => False) w wa := hwa ▸ (Mod.refl (fun _ => False) w).alloc _
  have hgwa := heap_alloc_new w (.cells #[.string sc, .slice a l.length cap] 29)
  rw [hwa] at hgwa
  have hzwa : wa.heap.size = w.heap.size + 1 := by rw [← hwa]; simp
  have hva := hv.mod hmwa (fun _ _ h => h)
  have hg := hgwa
  have c1 : wa.cell? ⟨w.heap.size, 1, none⟩ = some (.slice a l.length cap) := cell_of hgwa rfl
  obtain ⟨R, hR⟩ : ∃ R, filRight sc l = R := ⟨_, rfl⟩
  rw [hR]
  have hqz : w.heap.size < wa.heap.size := by omega
  have hsc' := hsc
  have Hv := Lib.hid hv
  have Hn := Lib.hid hn
  have Hwa := Lib.hid hwa
  have Hmwa := Lib.hid hmwa
  have Hgwa := Lib.hid hgwa
  have Hva := Lib.hid hva
  have HR := Lib.hid hR
  have Hg := Lib.hid hg
  clear hv hn hwa hmwa hgwa hva hR hg hzwa hll hsc
  go_enter Tryz.func20, Tryz.ntmps20
  go_wp2_with (first | (rw [show w.alloc _ = wa from Hwa.out]) | fail)
  go_loopw [8] (fun i wr => ∃ j : Nat, i = .int .i64 j ∧ j ≤ l.length ∧ Mod (fun _ => False) wa wr ∧ (∀ (k : Nat) (x : Cnd), k < j → l[k]? = some x → x.rightB = true)) (fun i _ => l.length - (intOf i).toNat)
  case atStart => exact ⟨0, rfl, Nat.zero_le _, Mod.refl _ _, fun k x hk => by omega⟩
  case round =>
    obtain ⟨j, rfl, hj, hmr, hall⟩ := hrel
    by_cases hlt : j < l.length
    · have hlt' : (j : Int) < l.length := by omega
      obtain ⟨x, hxj⟩ : ∃ x, l[j]? = some x := ⟨_, List.getElem?_eq_getElem hlt⟩
      have hxm := List.mem_of_getElem? hxj
      obtain ⟨g, off, rfl, hf⟩ : ∃ g off, a = some ⟨g, off, none⟩ ∧ CellsAt wr g (off + j * 7) x.cells := rd_cnd (Hva.out.mod hmr (fun _ _ h => h)) hxj
      obtain ⟨wz, hwz⟩ : ∃ wz : World, wr.alloc (.cells x.cells.toArray 81) = wz := ⟨_, rfl⟩
      have hmwz : Mod (fun _ => False) wr wz := hwz ▸ (Mod.refl (fun _ => False) wr).alloc _
      have hgwz := heap_alloc_new wr (.cells x.cells.toArray 81)
      rw [hwz] at hgwz
      have hzwz : wz.heap.size = wr.heap.size + 1 := by rw [← hwz]; simp
      have hmz := hmr.trans hmwz (fun _ _ h => h)
      have hcr := cond_right x (Hn.out x hxm) wz
      have Hmr := Lib.hid hmr
      have Hall := Lib.hid hall
      have Hxj := Lib.hid hxj
      have Hxm := Lib.hid hxm
      have Hf := Lib.hid hf
      have Hwz := Lib.hid hwz
      have Hmwz := Lib.hid hmwz
      have Hgwz := Lib.hid hgwz
      have Hmz := Lib.hid hmz
      have Hcr := Lib.hid hcr
      clear hmr hall hxj hxm hf hwz hmwz hgwz hmz hcr hzwz
      go_wp2_with (first | ((with_reducible refine wpList_load_lit 81 (.tmp 10) ?_); refine ⟨g, off + j * 7, rfl, x.cells, Hf.out, by kernel_rfl, by kernel_rfl, ?_⟩) | ((with_reducible refine wpList_store_lit 81 (.tmp 4) (.tmp 11) ?_); refine ⟨rfl, x.cells, rfl, rfl, by kernel_rfl, rfl, ?_⟩; rw [Hwz.out]) | ((with_reducible refine wpList_load_lit 81 (.tmp 4) ?_); refine ⟨wr.heap.size, 0, rfl, x.cells, CellsAt.row Hgwz.out, by kernel_rfl, by kernel_rfl, ?_⟩) | fail)
      refine Hcr.out.mono ?_
      rintro e w3 ⟨rfl, hm3⟩
      have Hm3 := Lib.hid (Hmz.out.trans hm3 (fun _ _ h => h))
      clear hm3
      cases hs : x.rightB with
      | true =>
        have Hs := Lib.hid hs
        clear hs
        go_wp2_with fail
        go_roundw
        case rel =>
          refine ⟨j + 1, by go_num, hlt, Hm3.out, fun k x' hk hx' => ?_⟩
          rcases Nat.lt_succ_iff_lt_or_eq.1 hk with hk | rfl
          · exact Hall.out k x' hk hx'
          · rw [Hxj.out] at hx'; cases hx'; exact Hs.out
        case measure => simp [intOf]; omega
      | false =>
        have Hs := Lib.hid hs
        clear hs
        go_wp2
        go_ret
        refine ⟨?_, Hmwa.out.trans Hm3.out (fun _ _ h => h)⟩
        have hf : filRight sc l = false := by
          unfold filRight
          rw [List.all_eq_false.2 ⟨x, Hxm.out, by rw [Hs.out]; decide⟩, Bool.false_and]
        rw [← HR.out, hf]
        rfl
    · obtain rfl : j = l.length := by omega
      have hgr := hmr.heap Hg.out (fun h => h)
      have c0 : wr.cell? ⟨w.heap.size, 0, none⟩ = some (.string sc) := cell_of hgr rfl
      have c1 : wr.cell? ⟨w.heap.size, 1, none⟩ = some (.slice a l.length cap) := cell_of hgr rfl
      have hsr := scope_right sc hsc' wr
      have hfr : filRight sc l = (scRight sc && decide (l.length ≤ 6)) := by
        unfold filRight
        rw [List.all_eq_true.2 fun x hx => by
          obtain ⟨k, hk⟩ := List.mem_iff_getElem?.1 hx
          exact hall k x (List.getElem?_eq_some_iff.1 hk).1 hk, Bool.true_and]
      rw [HR.out] at hfr
      have hmr2 := Hmwa.out.trans hmr (fun _ _ h => h)
      have Hmr2 := Lib.hid hmr2
      have Hsr := Lib.hid hsr
      have Hfr := Lib.hid hfr
      have Hgr := Lib.hid hgr
      clear hmr2 hsr hfr hgr hmr hall
      go_wp2_with fail
      refine Hsr.out.mono ?_
      rintro e w3 ⟨rfl, hm3⟩
      have hg3 := hm3.heap Hgr.out (fun h => h)
      have c1 : w3.cell? ⟨w.heap.size, 1, none⟩ = some (.slice a l.length cap) := cell_of hg3 rfl
      have Hm3 := Lib.hid (Hmr2.out.trans hm3 (fun _ _ h => h))
      clear hm3 hg3
      cases hs : scRight sc with
      | false =>
        have Hs := Lib.hid hs
        clear hs
        go_wp2
        go_ret
        refine ⟨?_, Hm3.out⟩
        rw [Hfr.out, Hs.out]
        rfl
      | true =>
        have Hs := Lib.hid hs
        clear hs
        go_wp2
        go_ret
        refine ⟨?_, Hm3.out⟩
        rw [Hfr.out, Hs.out, Bool.true_and]
        show Ending.returned (.bool (decide ((l.length : Int) ≤ 6))) = _
        congr 2
        exact decide_eq_decide.2 (by omega)
end Go.Proofs.YtloplmaekonenaaGreatDoor

namespace Go.Proofs.YtloplmaekonenaaGreatDoor
set_option maxRecDepth 20000
/-- A value's text. -/
def V.prt (v : V) : List UInt8 :=
  if v.kind = 0 then Lib.itoa v.int else if v.kind = 1 then numT (canonB v.num) else if v.kind = 2 then quoT Lib.goPrintTabs v.text else if v.yes then [121, 101, 115] else [110, 111]
/-- An op's word. -/
def wordT (op : Int) : List UInt8 :=
  if op = 0 then [61] else if op = 1 then [33, 61] else if op = 2 then [60] else if op = 3 then [60, 61] else if op = 4 then [62] else if op = 5 then [62, 61] else if op = 6 then [94] else if op = 7 then [104, 97, 115] else []
/-- A condition's text. -/
def Cnd.prt (c : Cnd) : List UInt8 := if c.op = 7 then [104, 97, 115, 32] ++ c.name.data.toList else c.name.data.toList ++ [32] ++ wordT c.op ++ [32] ++ c.v.prt
/-- The conditions behind the first one. -/
def tailT : List Cnd → List UInt8
  | [] => []
  | c :: l => [32, 38, 32] ++ c.prt ++ tailT l
/-- What stands behind a scope and its colon. -/
def bodyF : List Cnd → List UInt8
  | [] => []
  | c :: l => [32] ++ c.prt ++ tailT l
/-- A filter's text. -/
def filPrt (sc : ByteArray) (l : List Cnd) : List UInt8 := sc.data.toList ++ [58] ++ bodyF l
/-- Conditions as they are brought to. -/
def Cnd.norm (c : Cnd) : Cnd := if c.op = 7 then ⟨c.name, 7, V.zero⟩ else ⟨c.name, c.op, c.v.canon⟩
structure Cnd.fine (c : Cnd) : Prop where
  name : isName c.name = true
  op : 0 ≤ c.op ∧ c.op ≤ 7
  v : c.v.right = true
  num : c.v.num < 2 ^ 64
  is : c.norm = c

theorem kept_canon {x : Nat} (hx : x < 2 ^ 64) : Kept (canonB x) := by
  by_cases hn : isNum x
  · rw [canon_num2 hx hn]
    unfold isNum rungB at hn
    unfold rungB
    split
    · exact ⟨by omega, fun h => by omega, fun _ => rfl⟩
    · exact ⟨hx, fun h1 h2 => by omega, fun h => by omega⟩
  · have hf : fEq x x = false := by rw [Bool.eq_false_iff]; exact fun h => hn (fEq_num.1 h)
    unfold canonB
    rw [hf, if_neg (by decide)]
    exact ⟨by decide, fun _ _ => rfl, fun h => absurd h (by decide)⟩
/-- What stands behind a word: nothing, or a blank. -/
def Ends (r : List UInt8) : Prop := r = [] ∨ ∃ q, r = 32 :: q
theorem ends_blank (r : List UInt8) : Ends (32 :: r) := .inr ⟨r, rfl⟩
theorem word_inj {a b r q : List UInt8} (ha : ∀ c ∈ a, c ≠ 32) (hb : ∀ c ∈ b, c ≠ 32) (hr : Ends r) (hq : Ends q) (h : a ++ r = b ++ q) : a = b ∧ r = q := by
  have key : ∀ {l x : List UInt8}, (∀ c ∈ l, c ≠ 32) → Ends x → (l ++ x).takeWhile (· != 32) = l ∧ (l ++ x).dropWhile (· != 32) = x := by
    intro l x hl hx
    have hl' : ∀ c ∈ l, (c != 32) = true := fun c hc => by rw [bne_iff_ne]; exact hl c hc
    rw [List.takeWhile_append_of_pos hl', List.dropWhile_append_of_pos hl']
    rcases hx with rfl | ⟨y, rfl⟩
    · exact ⟨List.append_nil _, rfl⟩
    · exact ⟨List.append_nil _, rfl⟩
  have k1 := key ha hr
  have k2 := key hb hq
  rw [h] at k1
  exact ⟨k1.1.symm.trans k2.1, k1.2.symm.trans k2.2⟩
theorem name_chars {s : ByteArray} (h : isName s = true) : (∀ c ∈ s.data.toList, (97 ≤ c.toNat ∧ c.toNat ≤ 122) ∨ (48 ≤ c.toNat ∧ c.toNat ≤ 57)) ∧ ∃ c r, s.data.toList = c :: r ∧ 97 ≤ c.toNat ∧ c.toNat ≤ 122 := by
  unfold isName at h
  rw [Bool.and_eq_true, Bool.and_eq_true, List.all_eq_true] at h
  obtain ⟨h1, h2, -⟩ := h
  have at_ : ∀ (i : Nat) (c : UInt8), s.data.toList[i]? = some c → nameAt i c = true := fun i c hc => h1 (c, i) (List.mk_mem_zipIdx_iff_getElem?.2 hc)
  constructor
  · intro c hc
    obtain ⟨i, hi⟩ := List.getElem?_of_mem hc
    have := at_ i c hi
    unfold nameAt at this
    simp only [Bool.or_eq_true, Bool.and_eq_true, decide_eq_true_eq] at this
    omega
  · cases hl : s.data.toList with
    | nil =>
      have hz : s.size = 0 := by show s.data.size = 0; rw [← Array.length_toList, hl]; rfl
      rw [hz] at h2
      simp at h2
    | cons c r =>
      have := at_ 0 c (by rw [hl]; rfl)
      unfold nameAt at this
      simp only [Bool.or_eq_true, Bool.and_eq_true, decide_eq_true_eq, Nat.lt_irrefl, false_and, or_false] at this
      exact ⟨c, r, rfl, this⟩
theorem name_word {s : ByteArray} (h : isName s = true) : ∀ c ∈ s.data.toList, c ≠ 32 := by
  intro c hc e
  subst e
  have := (name_chars h).1 32 hc
  revert this; decide
theorem list_eq {s t : ByteArray} (h : s.data.toList = t.data.toList) : s = t := ByteArray.ext (Array.toList_inj.1 h)

theorem itoa_tok (n : Int) : (∀ c ∈ Lib.itoa n, isDig c ∨ c = 45) ∧ ∃ c r, Lib.itoa n = c :: r := by
  unfold Lib.itoa
  split
  · refine ⟨fun c hc => ?_, _, _, rfl⟩
    rcases List.mem_cons.1 hc with rfl | hc
    · exact .inr rfl
    · exact .inl ((dec_is _).2.1 c hc)
  · refine ⟨fun c hc => .inl ((dec_is _).2.1 c hc), ?_⟩
    cases hd : Lib.decDigits n.toNat with
    | nil => exact absurd hd (dec_is _).2.2.2
    | cons c r => exact ⟨c, r, rfl⟩
theorem dec_inj {a b : Nat} (h : Lib.decDigits a = Lib.decDigits b) : a = b := by
  rw [← (dec_is a).1, ← (dec_is b).1, h]
theorem itoa_inj {a b : Int} (h : Lib.itoa a = Lib.itoa b) : a = b := by
  have hd : ∀ (u : Nat) (r : List UInt8), Lib.decDigits u ≠ 45 :: r := fun u r e => by
    have := (dec_is u).2.1 45 (by rw [e]; exact List.mem_cons_self)
    unfold isDig at this
    revert this; decide
  unfold Lib.itoa at h
  split at h <;> split at h
  · have := dec_inj (List.cons.inj h).2; omega
  · exact absurd h.symm (hd _ _)
  · exact absurd h (hd _ _)
  · have := dec_inj h; omega

/-- The plain words of values: those that aren't quoted. -/
theorem val_word {v : V} (hk : v.kind ≠ 2) : (∀ c ∈ v.prt, c ≠ 32) ∧ ∃ c r, v.prt = c :: r ∧ c ≠ 34 := by
  unfold V.prt
  by_cases h0 : v.kind = 0
  · rw [if_pos h0]
    obtain ⟨h1, c, r, h2⟩ := itoa_tok v.int
    refine ⟨fun c hc e => ?_, c, r, h2, fun e => ?_⟩
    · subst e
      rcases h1 32 hc with h | h
      · unfold isDig at h; revert h; decide
      · revert h; decide
    · subst e
      rcases h1 34 (by rw [h2]; exact List.mem_cons_self) with h | h
      · unfold isDig at h; revert h; decide
      · revert h; decide
  rw [if_neg h0]
  by_cases h1 : v.kind = 1
  · rw [if_pos h1]
    obtain ⟨⟨c, r, h2⟩, h3, -, -⟩ := numT_tok (canonB v.num)
    refine ⟨fun c hc e => ?_, c, r, h2, fun e => ?_⟩
    · subst e; have := h3 32 hc; unfold isTok at this; revert this; decide
    · subst e; have := h3 34 (by rw [h2]; exact List.mem_cons_self); unfold isTok at this; revert this; decide
  rw [if_neg h1, if_neg hk]
  split
  · exact ⟨by decide, _, _, rfl, by decide⟩
  · exact ⟨by decide, _, _, rfl, by decide⟩

theorem vprt_inj {u v : V} {r q : List UInt8} (hu : u.right = true) (hv : v.right = true) (nu : u.num < 2 ^ 64) (nv : v.num < 2 ^ 64) (cu : u.canon = u) (cv : v.canon = v) (hr : Ends r) (hq : Ends q) (h : u.prt ++ r = v.prt ++ q) : u = v ∧ r = q := by
  have kr : ∀ {x : V}, x.right = true → x.kind = 0 ∨ x.kind = 1 ∨ x.kind = 2 ∨ x.kind = 3 := by
    intro x hx
    unfold V.right at hx
    simp only [Bool.and_eq_true, decide_eq_true_eq] at hx
    omega
  have q2 : ∀ {x : V}, x.kind = 2 → x.prt = quoT Lib.goPrintTabs x.text := fun h => by unfold V.prt; rw [if_neg (by omega), if_neg (by omega), if_pos h]
  have p0 : ∀ {x : V}, x.kind = 0 → x.prt = Lib.itoa x.int := fun h => by unfold V.prt; rw [if_pos h]
  have p1 : ∀ {x : V}, x.kind = 1 → x.prt = numT (canonB x.num) := fun h => by unfold V.prt; rw [if_neg (by omega), if_pos h]
  have p3 : ∀ {x : V}, x.kind = 3 → x.prt = if x.yes then [121, 101, 115] else [110, 111] := fun h => by unfold V.prt; rw [if_neg (by omega), if_neg (by omega), if_neg (by omega)]
  have c0 : ∀ {x : V}, x.canon = x → x.kind = 0 → x = { V.zero with kind := 0, int := x.int } := fun h e => by
    conv => lhs; rw [← h]
    unfold V.canon; rw [if_pos e]
  have c1 : ∀ {x : V}, x.canon = x → x.kind = 1 → x = { V.zero with kind := 1, num := canonB x.num } := fun h e => by
    conv => lhs; rw [← h]
    unfold V.canon; rw [if_neg (by omega), if_pos e]
  have c2 : ∀ {x : V}, x.canon = x → x.kind = 2 → x = { V.zero with kind := 2, text := x.text } := fun h e => by
    conv => lhs; rw [← h]
    unfold V.canon; rw [if_neg (by omega), if_neg (by omega), if_pos e]
  have c3 : ∀ {x : V}, x.canon = x → x.kind = 3 → x = { V.zero with kind := 3, yes := x.yes } := fun h e => by
    conv => lhs; rw [← h]
    unfold V.canon; rw [if_neg (by omega), if_neg (by omega), if_neg (by omega), if_pos e]
  by_cases hk : u.kind = 2 <;> by_cases hl : v.kind = 2
  · rw [q2 hk, q2 hl] at h
    obtain ⟨h1, h2⟩ := quoT_inj _ _ _ _ _ h
    refine ⟨?_, h2⟩
    rw [c2 cu hk, c2 cv hl, h1]
  · exfalso
    obtain ⟨-, c, x, h1, h2⟩ := val_word hl
    rw [q2 hk, h1] at h
    obtain ⟨y, hy⟩ := quoT_head Lib.goPrintTabs u.text
    rw [hy] at h
    exact h2 (List.cons.inj h).1.symm
  · exfalso
    obtain ⟨-, c, x, h1, h2⟩ := val_word hk
    rw [q2 hl, h1] at h
    obtain ⟨y, hy⟩ := quoT_head Lib.goPrintTabs v.text
    rw [hy] at h
    exact h2 (List.cons.inj h).1
  · obtain ⟨he, hrq⟩ := word_inj (val_word hk).1 (val_word hl).1 hr hq h
    refine ⟨?_, hrq⟩
    clear h
    -- an int's text shows no number, nor yes or no
    have i1 : ∀ {x y : V}, x.kind = 0 → y.kind = 1 → x.prt ≠ y.prt := by
      intro x y hx hy e
      rw [p0 hx, p1 hy] at e
      have hs := (numT_tok (canonB y.num)).2.2.2
      rw [← e] at hs
      unfold spec at hs
      rw [List.any_eq_true] at hs
      obtain ⟨c, hc, hcs⟩ := hs
      simp only [Bool.or_eq_true, beq_iff_eq] at hcs
      rcases (itoa_tok x.int).1 c hc with hd | hd
      · unfold isDig at hd
        rcases hcs with ((rfl | rfl) | rfl) | rfl <;> revert hd <;> decide
      · subst hd
        revert hcs; decide
    have i3 : ∀ {x y : V}, x.kind = 0 → y.kind = 3 → x.prt ≠ y.prt := by
      intro x y hx hy e
      rw [p0 hx, p3 hy] at e
      have : ∀ c, c ∈ (if y.yes = true then ([121, 101, 115] : List UInt8) else [110, 111]) → isDig c ∨ c = 45 := fun c hc => (itoa_tok x.int).1 c (by rw [e]; exact hc)
      cases hy : y.yes
      · rw [hy] at this
        have := this 110 (by decide)
        unfold isDig at this; revert this; decide
      · rw [hy] at this
        have := this 121 (by decide)
        unfold isDig at this; revert this; decide
    have n3 : ∀ {x y : V}, x.kind = 1 → y.kind = 3 → x.prt ≠ y.prt := by
      intro x y hx hy e
      rw [p1 hx, p3 hy] at e
      obtain ⟨-, h1, h2, -⟩ := numT_tok (canonB x.num)
      rw [e] at h1 h2
      cases hy : y.yes
      · rw [hy] at h2
        exact h2 _ rfl
      · rw [hy] at h1
        have := h1 121 (by decide)
        unfold isTok at this; revert this; decide
    rcases kr hu with a | a | a | a <;> rcases kr hv with b | b | b | b
    · rw [c0 cu a, c0 cv b]
      rw [p0 a, p0 b] at he
      rw [itoa_inj he]
    · exact absurd he (i1 a b)
    · exact absurd b hl
    · exact absurd he (i3 a b)
    · exact absurd he.symm (i1 b a)
    · rw [c1 cu a, c1 cv b]
      rw [p1 a, p1 b] at he
      rw [numT_inj (kept_canon nu) (kept_canon nv) he]
    · exact absurd b hl
    · exact absurd he (n3 a b)
    · exact absurd a hk
    · exact absurd a hk
    · exact absurd a hk
    · exact absurd a hk
    · exact absurd he.symm (i3 b a)
    · exact absurd he.symm (n3 b a)
    · exact absurd b hl
    · rw [c3 cu a, c3 cv b]
      rw [p3 a, p3 b] at he
      have : u.yes = v.yes := by
        cases hx : u.yes <;> cases hy : v.yes <;> rw [hx, hy] at he <;> first | rfl | (exfalso; revert he; decide)
      rw [this]

theorem op_cases {o : Int} (h : 0 ≤ o ∧ o ≤ 7) (h7 : o ≠ 7) : o = 0 ∨ o = 1 ∨ o = 2 ∨ o = 3 ∨ o = 4 ∨ o = 5 ∨ o = 6 := by omega
theorem word_op {o p : Int} (h : 0 ≤ o ∧ o ≤ 7) (k : 0 ≤ p ∧ p ≤ 7) (e : wordT o = wordT p) : o = p := by
  have a : ∀ x : Int, 0 ≤ x ∧ x ≤ 7 → x = 0 ∨ x = 1 ∨ x = 2 ∨ x = 3 ∨ x = 4 ∨ x = 5 ∨ x = 6 ∨ x = 7 := fun x hx => by omega
  rcases a o h with rfl | rfl | rfl | rfl | rfl | rfl | rfl | rfl <;> rcases a p k with rfl | rfl | rfl | rfl | rfl | rfl | rfl | rfl <;> first | rfl | (exfalso; revert e; decide)
theorem word_word {o : Int} (h : 0 ≤ o ∧ o ≤ 7) : ∀ c ∈ wordT o, c ≠ 32 := by
  have a : o = 0 ∨ o = 1 ∨ o = 2 ∨ o = 3 ∨ o = 4 ∨ o = 5 ∨ o = 6 ∨ o = 7 := by omega
  rcases a with rfl | rfl | rfl | rfl | rfl | rfl | rfl | rfl <;> decide
theorem word_head {o : Int} (h : 0 ≤ o ∧ o ≤ 7) (h7 : o ≠ 7) : ∃ c r, wordT o = c :: r ∧ (c.toNat < 97 ∧ (c.toNat < 48 ∨ 57 < c.toNat)) := by
  rcases op_cases h h7 with rfl | rfl | rfl | rfl | rfl | rfl | rfl
  all_goals exact ⟨_, _, rfl, by decide⟩

/-- Conditions' texts end by themselves, and tell the conditions. -/
theorem prt_inj {c d : Cnd} {r q : List UInt8} (hc : c.fine) (hd : d.fine) (hr : Ends r) (hq : Ends q) (h : c.prt ++ r = d.prt ++ q) : c = d ∧ r = q := by
  have eh : ∀ {x : Cnd}, x.fine → x.op = 7 → x = ⟨x.name, 7, V.zero⟩ := fun hx e => by
    conv => lhs; rw [← hx.is]
    unfold Cnd.norm; rw [if_pos e]
  have en : ∀ {x : Cnd}, x.fine → x.op ≠ 7 → x = ⟨x.name, x.op, x.v.canon⟩ := fun hx e => by
    conv => lhs; rw [← hx.is]
    unfold Cnd.norm; rw [if_neg e]
  have mix : ∀ {x y : Cnd} {a b : List UInt8}, x.fine → y.fine → x.op = 7 → y.op ≠ 7 → x.prt ++ a ≠ y.prt ++ b := by
    intro x y a b hx hy e f g
    unfold Cnd.prt at g
    rw [if_pos e, if_neg f] at g
    have g2 : [104, 97, 115] ++ (32 :: (x.name.data.toList ++ a)) = y.name.data.toList ++ (32 :: (wordT y.op ++ (32 :: (y.v.prt ++ b)))) := by
      simpa [List.append_assoc] using g
    obtain ⟨-, h2⟩ := word_inj (by decide) (name_word hy.name) (ends_blank _) (ends_blank _) g2
    have h3 := (List.cons.inj h2).2
    obtain ⟨c1, r1, h4, h5⟩ := (name_chars hx.name).2
    obtain ⟨c2, r2, h6, h7⟩ := word_head hy.op f
    rw [h4, h6] at h3
    have := (List.cons.inj h3).1
    subst this
    omega
  by_cases e : c.op = 7 <;> by_cases f : d.op = 7
  · unfold Cnd.prt at h
    rw [if_pos e, if_pos f, List.append_assoc, List.append_assoc] at h
    obtain ⟨h1, h2⟩ := word_inj (name_word hc.name) (name_word hd.name) hr hq (List.append_cancel_left h)
    exact ⟨by rw [eh hc e, eh hd f, list_eq h1], h2⟩
  · exact absurd h (mix hc hd e f)
  · exact absurd h.symm (mix hd hc f e)
  · unfold Cnd.prt at h
    rw [if_neg e, if_neg f] at h
    have g2 : c.name.data.toList ++ (32 :: (wordT c.op ++ (32 :: (c.v.prt ++ r)))) = d.name.data.toList ++ (32 :: (wordT d.op ++ (32 :: (d.v.prt ++ q)))) := by
      simpa [List.append_assoc] using h
    obtain ⟨h1, h2⟩ := word_inj (name_word hc.name) (name_word hd.name) (ends_blank _) (ends_blank _) g2
    obtain ⟨h3, h4⟩ := word_inj (word_word hc.op) (word_word hd.op) (ends_blank _) (ends_blank _) (List.cons.inj h2).2
    have cc : c.v.canon = c.v := by
      have := en hc e
      have := congrArg Cnd.v this
      exact this.symm
    have cd : d.v.canon = d.v := by
      have := en hd f
      have := congrArg Cnd.v this
      exact this.symm
    obtain ⟨h5, h6⟩ := vprt_inj hc.v hd.v hc.num hd.num cc cd hr hq (List.cons.inj h4).2
    refine ⟨?_, h6⟩
    have h7 := word_op hc.op hd.op h3
    have h8 := list_eq h1
    clear h h1 h2 h3 h4 g2 cc cd eh en mix e f hc hd
    cases c; cases d
    simp only at h5 h7 h8
    rw [h5, h7, h8]

theorem tail_ends (l : List Cnd) : Ends (tailT l) := by
  cases l with
  | nil => exact .inl rfl
  | cons c l => exact .inr ⟨_, rfl⟩
theorem tail_inj : ∀ {l m : List Cnd}, (∀ c ∈ l, c.fine) → (∀ c ∈ m, c.fine) → tailT l = tailT m → l = m := by
  intro l
  induction l with
  | nil =>
    intro m _ _ h
    cases m with
    | nil => rfl
    | cons d m => simp [tailT] at h
  | cons c l ih =>
    intro m hl hm h
    cases m with
    | nil => simp [tailT] at h
    | cons d m =>
      unfold tailT at h
      rw [List.append_assoc, List.append_assoc] at h
      obtain ⟨h1, h2⟩ := prt_inj (hl c List.mem_cons_self) (hm d List.mem_cons_self) (tail_ends l) (tail_ends m) (List.append_cancel_left h)
      rw [h1, ih (fun x hx => hl x (List.mem_cons_of_mem _ hx)) (fun x hx => hm x (List.mem_cons_of_mem _ hx)) h2]

/-- Unlike filters have unlike texts: scopes without a colon, conditions as they are brought to. -/
theorem fil_inj {s t : ByteArray} {l m : List Cnd} (hs : ∀ c ∈ s.data.toList, c ≠ 58) (ht : ∀ c ∈ t.data.toList, c ≠ 58) (hl : ∀ c ∈ l, c.fine) (hm : ∀ c ∈ m, c.fine) (h : filPrt s l = filPrt t m) : s = t ∧ l = m := by
  have rest : ∀ (u : ByteArray) (k : List Cnd), filPrt u k = u.data.toList ++ 58 :: bodyF k := fun u k => by unfold filPrt; simp
  rw [rest, rest] at h
  have key : ∀ {x y : List UInt8}, (∀ c ∈ x, c ≠ 58) → (x ++ 58 :: y).takeWhile (· != 58) = x ∧ (x ++ 58 :: y).dropWhile (· != 58) = 58 :: y := by
    intro x y hx
    have hx' : ∀ c ∈ x, (c != 58) = true := fun c hc => by rw [bne_iff_ne]; exact hx c hc
    rw [List.takeWhile_append_of_pos hx', List.dropWhile_append_of_pos hx']
    exact ⟨List.append_nil _, rfl⟩
  have k1 := key (y := bodyF l) hs
  have k2 := key (y := bodyF m) ht
  rw [h] at k1
  refine ⟨list_eq (k1.1.symm.trans k2.1), ?_⟩
  have hab : bodyF l = bodyF m := (List.cons.inj (k1.2.symm.trans k2.2)).2
  cases l with
  | nil =>
    cases m with
    | nil => rfl
    | cons d m => simp [bodyF] at hab
  | cons c l =>
    cases m with
    | nil => simp [bodyF] at hab
    | cons d m =>
      have hab : [32] ++ c.prt ++ tailT l = [32] ++ d.prt ++ tailT m := hab
      rw [List.append_assoc, List.append_assoc] at hab
      obtain ⟨h1, h2⟩ := prt_inj (hl c List.mem_cons_self) (hm d List.mem_cons_self) (tail_ends l) (tail_ends m) (List.append_cancel_left hab)
      rw [h1, tail_inj (fun x hx => hl x (List.mem_cons_of_mem _ hx)) (fun x hx => hm x (List.mem_cons_of_mem _ hx)) h2]
end Go.Proofs.YtloplmaekonenaaGreatDoor
