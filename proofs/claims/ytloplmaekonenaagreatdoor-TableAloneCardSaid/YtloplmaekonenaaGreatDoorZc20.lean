/-
  Conditions in memory, and whether one may be.
  The texts of values, conditions and filters: unlike for unlike ones (the plain law).
  The Reader's Value.
  The Writer's Value.
  The Writer's Event.
  The Reader's Event.
  What was read, written: the bytes that were read.
-/
import Derived.Test.YtloplmaekonenaaGreatDoorZc19
import Derived.Test.YtloplmaekonenaaGreatDoorZc17
import Derived.Test.YtloplmaekonenaaGreatDoorZc3
import Derived.Lib.PrintData
import Derived.Test.YtloplmaekonenaaGreatDoorZc4
import Derived.Test.YtloplmaekonenaaGreatDoorZc16
import Derived.Test.YtloplmaekonenaaGreatDoorZc14
namespace Go.Proofs.YtloplmaekonenaaGreatDoor
set_option maxRecDepth 20000
open Go.RowKit

/-- A condition. -/
structure Cnd where
  name : ByteArray
  op : Int
  v : V
def Cnd.cells (a : Cnd) : List Value := .string a.name :: .int .i64 a.op :: a.v.cells
theorem Cnd.cells_length (a : Cnd) : a.cells.length = 7 := rfl
def cnds (l : List Cnd) : List Value := l.flatMap Cnd.cells
theorem cnds_at (l : List Cnd) {k j : Nat} {a : Cnd} {u : Value} (h : l[k]? = some a) (hj : a.cells[j]? = some u) : (cnds l)[7 * k + j]? = some u := by
  induction l generalizing k with
  | nil => simp at h
  | cons b l ih =>
    unfold cnds at ih ⊢
    rw [List.flatMap_cons]
    cases k with
    | zero =>
      simp only [List.getElem?_cons_zero, Option.some.injEq] at h
      subst h
      have := (List.getElem?_eq_some_iff.1 hj).1
      rw [List.getElem?_append_left (by omega), Nat.mul_zero, Nat.zero_add, hj]
    | succ k =>
      rw [List.getElem?_cons_succ] at h
      rw [List.getElem?_append_right (by rw [Cnd.cells_length]; omega), Cnd.cells_length, show 7 * (k + 1) + j - 7 = 7 * k + j by omega]
      exact ih h
theorem cells_from2 {w : World} {g : Nat} {x : Cnd} {t : TypeId} (h : w.heap[g]? = some (.cells x.cells.toArray t (0, 0))) : CellsAt w g 2 x.v.cells := fun j u hu => by
  have := CellsAt.row h (j + 2) u (by simpa [Cnd.cells] using hu)
  rw [show 2 + j = 0 + (j + 2) by omega]
  exact this


theorem cnds_append (l m : List Cnd) : cnds (l ++ m) = cnds l ++ cnds m := by unfold cnds; simp
theorem cnd_size : (Tryz.prog.info? 81).map (·.size) = some 7 := by kernel_rfl
/-- An element of what reads as conditions. -/
theorem rd_cnd {w : World} {a : Option Addr} {cap : Nat} {l : List Cnd} {j : Nat} {x : Cnd} (h : RdSl w 7 (.slice a l.length cap) l.length (cnds l)) (hx : l[j]? = some x) : ∃ g off, a = some ⟨g, off, none⟩ ∧ CellsAt w g (off + j * 7) x.cells := by
  obtain ⟨-, a', c', h1, -, h3, h4⟩ := h
  cases h1
  cases a with
  | none => have := (List.getElem?_eq_some_iff.1 hx).1; exact absurd (h3 rfl) (by omega)
  | some b =>
    obtain ⟨g', off', h5, h6⟩ := h4 _ rfl (by have := (List.getElem?_eq_some_iff.1 hx).1; omega)
    refine ⟨g', off', by rw [h5], fun i u hu => ?_⟩
    have := h6 (7 * j + i) u (cnds_at _ hx hu)
    rw [show off' + j * 7 + i = off' + (7 * j + i) by omega]
    exact this

def Cnd.rightB (c : Cnd) : Bool := isName c.name && (decide (0 ≤ c.op) && (decide (c.op ≤ 7) && c.v.right))

set_option maxHeartbeats 1000000 in
theorem cond_right (c : Cnd) (hn : c.name.size ≤ 9223372036854775807) (w : World) : Calls Tryz.prog 52 #[.agg c.cells.toArray] w fun e w' => e = .returned (.bool c.rightB) ∧ Mod (fun _ => False) w w' := by
  obtain ⟨wa, hwa⟩ : ∃ wa : World, w.alloc (.cells c.cells.toArray 81) = wa := ⟨_, rfl⟩
  have hmwa : Mod (fun _ => False) w wa := hwa ▸ (Mod.refl (fun _ => False) w).alloc _
  have hgwa := heap_alloc_new w (.cells c.cells.toArray 81)
  rw [hwa] at hgwa
  have hzwa : wa.heap.size = w.heap.size + 1 := by rw [← hwa]; simp
  have c0 : wa.cell? ⟨w.heap.size, 0, none⟩ = some (.string c.name) := cell_of hgwa rfl
  have c1 : wa.cell? ⟨w.heap.size, 1, none⟩ = some (.int .i64 c.op) := cell_of hgwa rfl
  have c2 : wa.cell? ⟨w.heap.size, 2, none⟩ = some (.int .i64 c.v.kind) := cell_of hgwa rfl
  have c3 : wa.cell? ⟨w.heap.size, 3, none⟩ = some (.int .i64 c.v.int) := cell_of hgwa rfl
  have c4 : wa.cell? ⟨w.heap.size, 4, none⟩ = some (.float .f64 c.v.num) := cell_of hgwa rfl
  have c5 : wa.cell? ⟨w.heap.size, 5, none⟩ = some (.string c.v.text) := cell_of hgwa rfl
  have c6 : wa.cell? ⟨w.heap.size, 6, none⟩ = some (.bool c.v.yes) := cell_of hgwa rfl
  have hnm := name_at c.name (by omega) wa
  have Hnm := Lib.hid hnm
  have Hwa := Lib.hid hwa
  have Hmwa := Lib.hid hmwa
  clear hnm hwa hmwa hgwa hzwa hn
  cases h1 : isName c.name with
  | false =>
    rw [show c.rightB = false by unfold Cnd.rightB; rw [h1]; rfl]
    rw [h1] at Hnm
    clear h1
    go_enter Tryz.func52, Tryz.ntmps52
    go_wp2_with (first | (rw [show w.alloc _ = wa from Hwa.out]) | fail)
    refine Hnm.out.mono ?_
    rintro e w' ⟨rfl, rfl⟩
    go_wp2
    go_ret
    exact ⟨rfl, Hmwa.out⟩
  | true =>
    rw [show c.rightB = (decide (0 ≤ c.op) && (decide (c.op ≤ 7) && c.v.right)) by unfold Cnd.rightB; rw [h1]; rfl]
    rw [h1] at Hnm
    clear h1
    by_cases h2 : 0 ≤ c.op
    rotate_left
    · have h2' : c.op < 0 := by omega
      rw [show (decide (0 ≤ c.op) && (decide (c.op ≤ 7) && c.v.right)) = false by rw [decide_eq_false h2, Bool.false_and]]
      clear h2
      go_enter Tryz.func52, Tryz.ntmps52
      go_wp2_with (first | (rw [show w.alloc _ = wa from Hwa.out]) | fail)
      refine Hnm.out.mono ?_
      rintro e w' ⟨rfl, rfl⟩
      go_wp2
      go_ret
      exact ⟨rfl, Hmwa.out⟩
    by_cases h3 : c.op ≤ 7
    rotate_left
    · have h3' : 7 < c.op := by omega
      rw [show (decide (0 ≤ c.op) && (decide (c.op ≤ 7) && c.v.right)) = false by rw [decide_eq_false h3, Bool.false_and, Bool.and_false]]
      clear h3
      go_enter Tryz.func52, Tryz.ntmps52
      go_wp2_with (first | (rw [show w.alloc _ = wa from Hwa.out]) | fail)
      refine Hnm.out.mono ?_
      rintro e w' ⟨rfl, rfl⟩
      go_wp2
      go_ret
      exact ⟨rfl, Hmwa.out⟩
    rw [show (decide (0 ≤ c.op) && (decide (c.op ≤ 7) && c.v.right)) = c.v.right by rw [decide_eq_true h2, decide_eq_true h3, Bool.true_and, Bool.true_and]]
    have hvr := value_right c.v wa
    have Hvr := Lib.hid hvr
    clear hvr
    go_enter Tryz.func52, Tryz.ntmps52
    go_wp2_with (first | (rw [show w.alloc _ = wa from Hwa.out]) | fail)
    refine Hnm.out.mono ?_
    rintro e w' ⟨rfl, rfl⟩
    go_wp2_with fail
    refine Hvr.out.mono ?_
    rintro e w2 ⟨rfl, hm2⟩
    have Hm2 := Lib.hid (Hmwa.out.trans hm2 (fun _ _ h => h))
    clear hm2
    go_wp2
    go_ret
    exact ⟨rfl, Hm2.out⟩

def filRight (sc : ByteArray) (l : List Cnd) : Bool := l.all Cnd.rightB && (scRight sc && decide (l.length ≤ 6))

set_option maxHeartbeats 2000000 in
theorem filter_right (w : World) (sc : ByteArray) (av : Value) (l : List Cnd) (hv : RdSl w 7 av l.length (cnds l)) (hll : l.length ≤ 9223372036854775807) (hsc : sc.size ≤ 9223372036854775807) (hn : ∀ c ∈ l, c.name.size ≤ 9223372036854775807) :
    Calls Tryz.prog 20 #[.agg #[.string sc, av]] w fun e w' => e = .returned (.bool (filRight sc l)) ∧ Mod (fun _ => False) w w' := by
  obtain ⟨a, cap, rfl, hcap⟩ : ∃ a c, av = .slice a l.length c ∧ l.length ≤ c := by obtain ⟨-, a, c, h, h2, -⟩ := hv; exact ⟨a, c, h, h2⟩
  have hll' : (l.length : Int) ≤ 9223372036854775807 := by omega
  have hcap' : (l.length : Int) ≤ cap := by omega
  obtain ⟨wa, hwa⟩ : ∃ wa : World, w.alloc (.cells #[.string sc, .slice a l.length cap] 29) = wa := ⟨_, rfl⟩
  have hmwa : Mod (fun _ => False) w wa := hwa ▸ (Mod.refl (fun _ => False) w).alloc _
  have hgwa := heap_alloc_new w (.cells #[.string sc, .slice a l.length cap] 29)
  rw [hwa] at hgwa
  have hzwa : wa.heap.size = w.heap.size + 1 := by rw [← hwa]; simp
  have hva := hv.mod hmwa (fun _ _ h => h)
  have hg := hgwa
  have c1 : wa.cell? ⟨w.heap.size, 1, none⟩ = some (.slice a l.length cap) := cell_of hgwa rfl
  obtain ⟨R, hR⟩ : ∃ R, filRight sc l = R := ⟨_, rfl⟩
  rw [hR]
  have hqz : w.heap.size < wa.heap.size := by omega
  have hsc' := hsc
  have Hv := Lib.hid hv
  have Hn := Lib.hid hn
  have Hwa := Lib.hid hwa
  have Hmwa := Lib.hid hmwa
  have Hgwa := Lib.hid hgwa
  have Hva := Lib.hid hva
  have HR := Lib.hid hR
  have Hg := Lib.hid hg
  clear hv hn hwa hmwa hgwa hva hR hg hzwa hll hsc
  go_enter Tryz.func20, Tryz.ntmps20
  go_wp2_with (first | (rw [show w.alloc _ = wa from Hwa.out]) | fail)
  go_loopw [8] (fun i wr => ∃ j : Nat, i = .int .i64 j ∧ j ≤ l.length ∧ Mod (fun _ => False) wa wr ∧ (∀ (k : Nat) (x : Cnd), k < j → l[k]? = some x → x.rightB = true)) (fun i _ => l.length - (intOf i).toNat)
  case atStart => exact ⟨0, rfl, Nat.zero_le _, Mod.refl _ _, fun k x hk => by omega⟩
  case round =>
    obtain ⟨j, rfl, hj, hmr, hall⟩ := hrel
    by_cases hlt : j < l.length
    · have hlt' : (j : Int) < l.length := by omega
      obtain ⟨x, hxj⟩ : ∃ x, l[j]? = some x := ⟨_, List.getElem?_eq_getElem hlt⟩
      have hxm := List.mem_of_getElem? hxj
      obtain ⟨g, off, rfl, hf⟩ : ∃ g off, a = some ⟨g, off, none⟩ ∧ CellsAt wr g (off + j * 7) x.cells := rd_cnd (Hva.out.mod hmr (fun _ _ h => h)) hxj
      obtain ⟨wz, hwz⟩ : ∃ wz : World, wr.alloc (.cells x.cells.toArray 81) = wz := ⟨_, rfl⟩
      have hmwz : Mod (fun _ => False) wr wz := hwz ▸ (Mod.refl (fun _ => False) wr).alloc _
      have hgwz := heap_alloc_new wr (.cells x.cells.toArray 81)
      rw [hwz] at hgwz
      have hzwz : wz.heap.size = wr.heap.size + 1 := by rw [← hwz]; simp
      have hmz := hmr.trans hmwz (fun _ _ h => h)
      have hcr := cond_right x (Hn.out x hxm) wz
      have Hmr := Lib.hid hmr
      have Hall := Lib.hid hall
      have Hxj := Lib.hid hxj
      have Hxm := Lib.hid hxm
      have Hf := Lib.hid hf
      have Hwz := Lib.hid hwz
      have Hmwz := Lib.hid hmwz
      have Hgwz := Lib.hid hgwz
      have Hmz := Lib.hid hmz
      have Hcr := Lib.hid hcr
      clear hmr hall hxj hxm hf hwz hmwz hgwz hmz hcr hzwz
      go_wp2_with (first | ((with_reducible refine wpList_load_lit 81 (.tmp 10) ?_); refine ⟨g, off + j * 7, rfl, x.cells, Hf.out, by kernel_rfl, by kernel_rfl, ?_⟩) | ((with_reducible refine wpList_store_lit 81 (.tmp 4) (.tmp 11) ?_); refine ⟨rfl, x.cells, rfl, rfl, by kernel_rfl, rfl, ?_⟩; rw [Hwz.out]) | ((with_reducible refine wpList_load_lit 81 (.tmp 4) ?_); refine ⟨wr.heap.size, 0, rfl, x.cells, CellsAt.row Hgwz.out, by kernel_rfl, by kernel_rfl, ?_⟩) | fail)
      refine Hcr.out.mono ?_
      rintro e w3 ⟨rfl, hm3⟩
      have Hm3 := Lib.hid (Hmz.out.trans hm3 (fun _ _ h => h))
      clear hm3
      cases hs : x.rightB with
      | true =>
        have Hs := Lib.hid hs
        clear hs
        go_wp2_with fail
        go_roundw
        case rel =>
          refine ⟨j + 1, by go_num, hlt, Hm3.out, fun k x' hk hx' => ?_⟩
          rcases Nat.lt_succ_iff_lt_or_eq.1 hk with hk | rfl
          · exact Hall.out k x' hk hx'
          · rw [Hxj.out] at hx'; cases hx'; exact Hs.out
        case measure => simp [intOf]; omega
      | false =>
        have Hs := Lib.hid hs
        clear hs
        go_wp2
        go_ret
        refine ⟨?_, Hmwa.out.trans Hm3.out (fun _ _ h => h)⟩
        have hf : filRight sc l = false := by
          unfold filRight
          rw [List.all_eq_false.2 ⟨x, Hxm.out, by rw [Hs.out]; decide⟩, Bool.false_and]
        rw [← HR.out, hf]
        rfl
    · obtain rfl : j = l.length := by omega
      have hgr := hmr.heap Hg.out (fun h => h)
      have c0 : wr.cell? ⟨w.heap.size, 0, none⟩ = some (.string sc) := cell_of hgr rfl
      have c1 : wr.cell? ⟨w.heap.size, 1, none⟩ = some (.slice a l.length cap) := cell_of hgr rfl
      have hsr := scope_right sc hsc' wr
      have hfr : filRight sc l = (scRight sc && decide (l.length ≤ 6)) := by
        unfold filRight
        rw [List.all_eq_true.2 fun x hx => by
          obtain ⟨k, hk⟩ := List.mem_iff_getElem?.1 hx
          exact hall k x (List.getElem?_eq_some_iff.1 hk).1 hk, Bool.true_and]
      rw [HR.out] at hfr
      have hmr2 := Hmwa.out.trans hmr (fun _ _ h => h)
      have Hmr2 := Lib.hid hmr2
      have Hsr := Lib.hid hsr
      have Hfr := Lib.hid hfr
      have Hgr := Lib.hid hgr
      clear hmr2 hsr hfr hgr hmr hall
      go_wp2_with fail
      refine Hsr.out.mono ?_
      rintro e w3 ⟨rfl, hm3⟩
      have hg3 := hm3.heap Hgr.out (fun h => h)
      have c1 : w3.cell? ⟨w.heap.size, 1, none⟩ = some (.slice a l.length cap) := cell_of hg3 rfl
      have Hm3 := Lib.hid (Hmr2.out.trans hm3 (fun _ _ h => h))
      clear hm3 hg3
      cases hs : scRight sc with
      | false =>
        have Hs := Lib.hid hs
        clear hs
        go_wp2
        go_ret
        refine ⟨?_, Hm3.out⟩
        rw [Hfr.out, Hs.out]
        rfl
      | true =>
        have Hs := Lib.hid hs
        clear hs
        go_wp2
        go_ret
        refine ⟨?_, Hm3.out⟩
        rw [Hfr.out, Hs.out, Bool.true_and]
        show Ending.returned (.bool (decide ((l.length : Int) ≤ 6))) = _
        congr 2
        exact decide_eq_decide.2 (by omega)
end Go.Proofs.YtloplmaekonenaaGreatDoor

namespace Go.Proofs.YtloplmaekonenaaGreatDoor
set_option maxRecDepth 20000
/-- A value's text. -/
def V.prt (v : V) : List UInt8 :=
  if v.kind = 0 then Lib.itoa v.int else if v.kind = 1 then numT (canonB v.num) else if v.kind = 2 then quoT Lib.goPrintTabs v.text else if v.yes then [121, 101, 115] else [110, 111]
/-- An op's word. -/
def wordT (op : Int) : List UInt8 :=
  if op = 0 then [61] else if op = 1 then [33, 61] else if op = 2 then [60] else if op = 3 then [60, 61] else if op = 4 then [62] else if op = 5 then [62, 61] else if op = 6 then [94] else if op = 7 then [104, 97, 115] else []
/-- A condition's text. -/
def Cnd.prt (c : Cnd) : List UInt8 := if c.op = 7 then [104, 97, 115, 32] ++ c.name.data.toList else c.name.data.toList ++ [32] ++ wordT c.op ++ [32] ++ c.v.prt
/-- The conditions behind the first one. -/
def tailT : List Cnd → List UInt8
  | [] => []
  | c :: l => [32, 38, 32] ++ c.prt ++ tailT l
/-- What stands behind a scope and its colon. -/
def bodyF : List Cnd → List UInt8
  | [] => []
  | c :: l => [32] ++ c.prt ++ tailT l
/-- A filter's text. -/
def filPrt (sc : ByteArray) (l : List Cnd) : List UInt8 := sc.data.toList ++ [58] ++ bodyF l
/-- Conditions as they are brought to. -/
def Cnd.norm (c : Cnd) : Cnd := if c.op = 7 then ⟨c.name, 7, V.zero⟩ else ⟨c.name, c.op, c.v.canon⟩
end Go.Proofs.YtloplmaekonenaaGreatDoor

namespace Go.Proofs.YtloplmaekonenaaGreatDoor
set_option maxRecDepth 20000
open Go.RowKit

/-- The value that bytes begin with. -/
def readV : List UInt8 → Option (V × List UInt8)
  | [] => none
  | k :: t =>
    if k.toNat = 0 then (if 8 ≤ t.length then some ({ V.zero with kind := 0, int := wrap64 (longOf (t.take 8) : Nat) }, t.drop 8) else none)
    else if k.toNat = 1 then (if 8 ≤ t.length ∧ (backB (longOf (t.take 8))).2 = true then some ({ V.zero with kind := 1, num := (backB (longOf (t.take 8))).1 }, t.drop 8) else none)
    else if k.toNat = 2 then (match t with | [] => none | n :: t => if n.toNat ≤ t.length ∧ n.toNat ≤ 40 then some ({ V.zero with kind := 2, text := str (t.take n.toNat) }, t.drop n.toNat) else none)
    else if k.toNat = 3 then (match t with | [] => none | n :: t => if n.toNat ≤ 1 then some ({ V.zero with kind := 3, yes := n.toNat == 1 }, t) else none)
    else none

/-- Blocks that are newer play no part. -/
theorem Mod.on {F G : Nat → Prop} {w w' w'' : World} (h : Mod F w w') (k : Mod G w' w'') (hG : ∀ b, G b → F b ∨ w.heap.size ≤ b) : Mod F w w'' :=
  h.trans k fun b hb hg => (hG b hg).elim id fun h => by omega

end Go.Proofs.YtloplmaekonenaaGreatDoor

namespace Go.Proofs.YtloplmaekonenaaGreatDoor
set_option maxRecDepth 20000
open Go.RowKit

/-- The last byte, written anew. -/
theorem Wtr.last {w : World} {p : Nat} {v : Value} {bs : List UInt8} {b : UInt8} (h : Wtr w p v (bs ++ [b])) : ∃ g off cap, v = .slice (some ⟨g, off, none⟩) (bs.length + 1) cap ∧ bs.length + 1 ≤ cap ∧
    w.cell? ⟨g, off + bs.length, none⟩ = some (.int .u8 (b.toNat : Int)) ∧ w.frozen? ⟨g, off + bs.length, none⟩ = false ∧
    ∀ c : UInt8, Wtr (w.setCell ⟨g, off + bs.length, none⟩ (.int .u8 (c.toNat : Int))) p v (bs ++ [c]) ∧ Wrote w p v (w.setCell ⟨g, off + bs.length, none⟩ (.int .u8 (c.toNat : Int))) v := by
  have hlen : (bs ++ [b]).length = bs.length + 1 := by simp
  rcases h.own.2 with ⟨rfl, h0⟩ | ⟨g, off, cap, cur, hv, hg, hn, hc, hs, ht⟩
  · omega
  rw [hlen] at hv hn
  refine ⟨g, off, cap, hv, hn, ?_, fr_of hg, fun c => ?_⟩
  · refine cell_of hg ?_
    have : (u8s (bs ++ [b]))[bs.length]? = some (.int .u8 (b.toNat : Int)) := by simp [u8s]
    rw [← ht, List.getElem?_take, if_pos (by omega), List.getElem?_drop] at this
    simpa using this
  · have hgp : g ≠ p := h.ne g (by rw [hv]; rfl)
    refine ⟨⟨?_, ⟨by simp [u8s], .inr ⟨g, off, cap, _, by rw [hv]; simp, heap_set hg, by simpa using hn, hc, by simpa using hs, ?_⟩⟩⟩, ⟨(Mod.refl (fun k => k = p ∨ inBlock v k) w).setCell (fun _ => .inr (by rw [hv]; rfl)) _, fun k hk => .inl hk⟩⟩
    · exact ((Mod.refl (fun k => k = g) w).setCell (fun _ => rfl) _).heap h.row (fun h => hgp h.symm)
    · have e : ((bs ++ [c]).length * 1) = ((bs ++ [b]).length * 1) := by simp
      rw [e, Array.toList_setIfInBounds, List.drop_set, if_neg (by omega), List.take_set, ht, u8s_snoc, u8s_snoc, show off + bs.length - off = (u8s bs).length by rw [u8s_length]; omega]
      simp

end Go.Proofs.YtloplmaekonenaaGreatDoor

namespace Go.Proofs.YtloplmaekonenaaGreatDoor
set_option maxRecDepth 20000
open Go.RowKit

theorem Wrote.after {w w0 w' : World} {p : Nat} {v v' : Value} (hal : Mod (fun _ => False) w w0) (h : Wrote w0 p v w' v') : Wrote w p v w' v' :=
  ⟨(hal.mono (fun _ _ h => h.elim)).trans h.mod (fun _ _ h => h), fun k hk => (h.new k hk).imp id (fun h => by have := hal.size; omega)⟩

end Go.Proofs.YtloplmaekonenaaGreatDoor

namespace Go.Proofs.YtloplmaekonenaaGreatDoor
set_option maxRecDepth 20000
open Go.RowKit

/-- The text that bytes begin with. -/
def readT : List UInt8 → Option (ByteArray × List UInt8)
  | [] => none
  | x :: t => if x.toNat ≤ t.length then some (str (t.take x.toNat), t.drop x.toNat) else none
/-- So many attributes. -/
def readAtts : Nat → List UInt8 → Option (List Att × List UInt8)
  | 0, bs => some ([], bs)
  | n + 1, bs => (readT bs).bind fun p => (readV p.2).bind fun q => (readAtts n q.2).map fun z => (⟨p.1, q.1⟩ :: z.1, z.2)
theorem readAtts_zero (bs : List UInt8) : readAtts 0 bs = some ([], bs) := rfl
theorem readAtts_succ (n : Nat) (bs : List UInt8) : readAtts (n + 1) bs = (readT bs).bind fun p => (readV p.2).bind fun q => (readAtts n q.2).map fun z => (⟨p.1, q.1⟩ :: z.1, z.2) := rfl
/-- What reading so many more comes to. -/
def Went (l : List Att) (t bs : List UInt8) (k : Nat) : Prop := ∀ m, readAtts (k + m) bs = (readAtts m t).map fun z => (l ++ z.1, z.2)
theorem Went.start (bs : List UInt8) : Went [] bs bs 0 := fun m => by rw [Nat.zero_add]; cases readAtts m bs <;> simp
theorem Went.next {l : List Att} {t bs : List UInt8} {k : Nat} (h : Went l t bs k) {s : ByteArray} {t1 t2 : List UInt8} {v : V} (h1 : readT t = some (s, t1)) (h2 : readV t1 = some (v, t2)) : Went (l ++ [⟨s, v⟩]) t2 bs (k + 1) := fun m => by
  rw [Nat.add_assoc, h (1 + m), Nat.add_comm 1 m, readAtts_succ, h1]
  simp only [Option.bind_some, h2]
  cases readAtts m t2 <;> simp
theorem Went.none {l : List Att} {t bs : List UInt8} {k n : Nat} (h : Went l t bs k) (hk : k < n) (hr : ∀ m, readAtts (m + 1) t = none) : readAtts n bs = none := by
  have := h (n - k - 1 + 1)
  rw [hr, show k + (n - k - 1 + 1) = n by omega] at this
  simpa using this
theorem Went.done {l : List Att} {t bs : List UInt8} {k : Nat} (h : Went l t bs k) : readAtts k bs = some (l, t) := by
  have := h 0
  rw [Nat.add_zero, readAtts_zero] at this
  simpa using this
end Go.Proofs.YtloplmaekonenaaGreatDoor

namespace Go.Proofs.YtloplmaekonenaaGreatDoor
set_option maxRecDepth 20000
open Go.RowKit

theorem str_size (bs : List UInt8) : (str bs).size = bs.length := by
  show (str bs).data.size = bs.length
  simp [str]

end Go.Proofs.YtloplmaekonenaaGreatDoor
