/-
  Package value: Right, Canon, Void, Same.
  Package event: kept.
  Package event: Name.
  Package event: Right.
-/
import Derived.Test.YtloplmaekonenaaGreatDoorZe3
import Derived.Laws.StructEq
import Derived.Deep.QuietTactic
import Derived.BigQuiet
import Derived.Laws.Cover1
namespace Go.Proofs.YtloplmaekonenaaGreatDoor
set_option maxRecDepth 20000
open Go.RowKit

structure V where
  kind : Int
  int : Int
  num : Nat
  text : ByteArray
  yes : Bool

def V.cells (v : V) : List Value := [.int .i64 v.kind, .int .i64 v.int, .float .f64 v.num, .string v.text, .bool v.yes]
def V.zero : V := ⟨0, 0, 0, ⟨#[]⟩, false⟩

def V.right (v : V) : Bool := decide (0 ≤ v.kind) && (decide (v.kind ≤ 3) && decide (v.text.size ≤ 40))
def V.canon (v : V) : V :=
  if v.kind = 0 then { V.zero with kind := 0, int := v.int } else if v.kind = 1 then { V.zero with kind := 1, num := canonB v.num } else
  if v.kind = 2 then { V.zero with kind := 2, text := v.text } else if v.kind = 3 then { V.zero with kind := 3, yes := v.yes } else V.zero
def V.void (v : V) : Bool := v.kind == 1 && !fEq v.num v.num

theorem value_right (v : V) (w : World) : Calls Tryz.prog 80 #[.agg v.cells.toArray] w fun e w' => e = .returned (.bool v.right) ∧ Mod (fun _ => False) w w' := by
  obtain ⟨kind, int, num, text, yes⟩ := v
  unfold V.right V.cells
  by_cases h0 : 0 ≤ kind
  · by_cases h3 : kind ≤ 3
    · by_cases ht : text.size ≤ 40
      · have ht' : (text.size : Int) ≤ 40 := by omega
        rw [decide_eq_true h0, decide_eq_true h3, decide_eq_true ht]
        go_enter Tryz.func80, Tryz.ntmps80
        go_wp2
        go_ret
        exact ⟨rfl, (Mod.refl _ w).alloc _⟩
      · have ht' : (40 : Int) < text.size := by omega
        rw [decide_eq_true h0, decide_eq_true h3, decide_eq_false ht]
        go_enter Tryz.func80, Tryz.ntmps80
        go_wp2
        go_ret
        exact ⟨congrArg (fun b => Ending.returned (.bool b)) (decide_eq_false (by omega)), (Mod.refl _ w).alloc _⟩
    · have h3' : 3 < kind := by omega
      rw [decide_eq_true h0, decide_eq_false h3]
      go_enter Tryz.func80, Tryz.ntmps80
      go_wp2
      go_ret
      exact ⟨rfl, (Mod.refl _ w).alloc _⟩
  · have h0' : kind < 0 := by omega
    rw [decide_eq_false h0]
    go_enter Tryz.func80, Tryz.ntmps80
    go_wp2
    go_ret
    exact ⟨rfl, (Mod.refl _ w).alloc _⟩

theorem value_void (v : V) (w : World) : Calls Tryz.prog 123 #[.agg v.cells.toArray] w fun e w' => e = .returned (.bool v.void) ∧ Mod (fun _ => False) w w' := by
  obtain ⟨kind, int, num, text, yes⟩ := v
  unfold V.void V.cells
  have Hn := Lib.hid fun w => none_at num w
  by_cases h1 : kind = 1
  · have h1b : (kind == 1) = true := by rw [h1]; rfl
    rw [h1b]
    subst h1
    go_enter Tryz.func123, Tryz.ntmps123
    go_wp2_with fail
    refine (Hn.out _).mono ?_
    rintro e w1 ⟨rfl, rfl⟩
    go_wp2
    go_ret
    exact ⟨rfl, (Mod.refl _ w).alloc _⟩
  · have h1b : (kind == 1) = false := by rw [beq_eq_false_iff_ne]; exact h1
    rw [h1b]
    go_enter Tryz.func123, Tryz.ntmps123
    go_wp2
    go_ret
    exact ⟨rfl, (Mod.refl _ w).alloc _⟩

theorem value_canon (v : V) (w : World) : Calls Tryz.prog 77 #[.agg v.cells.toArray] w fun e w' => e = .returned (.agg v.canon.cells.toArray) ∧ Mod (fun _ => False) w w' := by
  obtain ⟨kind, int, num, text, yes⟩ := v
  have Hc := Lib.hid fun w => canon_at num w
  have hm0 : ∀ (A B : Obj) (w' : World), Mod (fun k => k = w.heap.size + 1) ((w.alloc A).alloc B) w' → Mod (fun _ => False) w w' := fun A B w' h =>
    (((Mod.refl (fun _ => False) w).alloc A).alloc B).trans h (fun b hb h => by omega)
  have Hm0 := Lib.hid hm0
  clear hm0
  by_cases h0 : kind = 0
  · have hv : (V.canon ⟨kind, int, num, text, yes⟩).cells = [.int .i64 0, .int .i64 int, .float .f64 0, .string ⟨#[]⟩, .bool false] := by unfold V.canon; rw [if_pos h0]; rfl
    rw [hv]
    unfold V.cells
    subst h0
    clear hv
    go_enter Tryz.func77, Tryz.ntmps77
    go_wp2_with (refine wpList_store_row rfl 79 (.tmp 2) (.tmp 9) rfl (w.heap.size + 1) rfl _ 79 (heap_alloc2 w _ _) [.int .i64 0, .int .i64 int, .float .f64 0, .string ⟨#[]⟩, .bool false] rfl 5 rfl rfl (by kernel_rfl) rfl ?_; intro w2 h2 hm2; have H2 := Lib.hid h2; have Hm2 := Lib.hid hm2; clear h2 hm2)
    exact bodyPost_cell rfl (w.heap.size + 1) rfl _ (CellsAt.row H2.out) (by kernel_rfl) (by kernel_rfl) rfl ⟨rfl, Hm0.out _ _ _ Hm2.out⟩
  by_cases h1 : kind = 1
  · have hv : (V.canon ⟨kind, int, num, text, yes⟩).cells = [.int .i64 1, .int .i64 0, .float .f64 (canonB num), .string ⟨#[]⟩, .bool false] := by unfold V.canon; rw [if_neg h0, if_pos h1]; rfl
    rw [hv]
    unfold V.cells
    subst h1
    clear hv h0
    go_enter Tryz.func77, Tryz.ntmps77
    go_wp2_with fail
    refine (Hc.out _).mono ?_
    rintro e w1 ⟨rfl, rfl⟩
    go_wp2_with (refine wpList_store_row rfl 79 (.tmp 2) (.tmp 15) rfl (w.heap.size + 1) rfl _ 79 (heap_alloc2 w _ _) [.int .i64 1, .int .i64 0, .float .f64 (canonB num), .string ⟨#[]⟩, .bool false] rfl 5 rfl rfl (by kernel_rfl) rfl ?_; intro w2 h2 hm2; have H2 := Lib.hid h2; have Hm2 := Lib.hid hm2; clear h2 hm2)
    exact bodyPost_cell rfl (w.heap.size + 1) rfl _ (CellsAt.row H2.out) (by kernel_rfl) (by kernel_rfl) rfl ⟨rfl, Hm0.out _ _ _ Hm2.out⟩
  by_cases h2 : kind = 2
  · have hv : (V.canon ⟨kind, int, num, text, yes⟩).cells = [.int .i64 2, .int .i64 0, .float .f64 0, .string text, .bool false] := by unfold V.canon; rw [if_neg h0, if_neg h1, if_pos h2]; rfl
    rw [hv]
    unfold V.cells
    subst h2
    clear hv h0 h1
    go_enter Tryz.func77, Tryz.ntmps77
    go_wp2_with (refine wpList_store_row rfl 79 (.tmp 2) (.tmp 20) rfl (w.heap.size + 1) rfl _ 79 (heap_alloc2 w _ _) [.int .i64 2, .int .i64 0, .float .f64 0, .string text, .bool false] rfl 5 rfl rfl (by kernel_rfl) rfl ?_; intro w2 h2 hm2; have H2 := Lib.hid h2; have Hm2 := Lib.hid hm2; clear h2 hm2)
    exact bodyPost_cell rfl (w.heap.size + 1) rfl _ (CellsAt.row H2.out) (by kernel_rfl) (by kernel_rfl) rfl ⟨rfl, Hm0.out _ _ _ Hm2.out⟩
  by_cases h3 : kind = 3
  · have hv : (V.canon ⟨kind, int, num, text, yes⟩).cells = [.int .i64 3, .int .i64 0, .float .f64 0, .string ⟨#[]⟩, .bool yes] := by unfold V.canon; rw [if_neg h0, if_neg h1, if_neg h2, if_pos h3]; rfl
    rw [hv]
    unfold V.cells
    subst h3
    clear hv h0 h1 h2
    go_enter Tryz.func77, Tryz.ntmps77
    go_wp2_with (refine wpList_store_row rfl 79 (.tmp 2) (.tmp 25) rfl (w.heap.size + 1) rfl _ 79 (heap_alloc2 w _ _) [.int .i64 3, .int .i64 0, .float .f64 0, .string ⟨#[]⟩, .bool yes] rfl 5 rfl rfl (by kernel_rfl) rfl ?_; intro w2 h2 hm2; have H2 := Lib.hid h2; have Hm2 := Lib.hid hm2; clear h2 hm2)
    exact bodyPost_cell rfl (w.heap.size + 1) rfl _ (CellsAt.row H2.out) (by kernel_rfl) (by kernel_rfl) rfl ⟨rfl, Hm0.out _ _ _ Hm2.out⟩
  have hv : (V.canon ⟨kind, int, num, text, yes⟩).cells = [.int .i64 0, .int .i64 0, .float .f64 0, .string ⟨#[]⟩, .bool false] := by unfold V.canon; rw [if_neg h0, if_neg h1, if_neg h2, if_neg h3]; rfl
  rw [hv]
  unfold V.cells
  clear hv
  go_enter Tryz.func77, Tryz.ntmps77
  go_wp2_with (refine wpList_store_row rfl 79 (.tmp 2) (.tmp 26) rfl (w.heap.size + 1) rfl _ 79 (heap_alloc2 w _ _) [.int .i64 0, .int .i64 0, .float .f64 0, .string ⟨#[]⟩, .bool false] rfl 5 rfl rfl (by kernel_rfl) rfl ?_; intro w2 h2 hm2; have H2 := Lib.hid h2; have Hm2 := Lib.hid hm2; clear h2 hm2)
  exact bodyPost_cell rfl (w.heap.size + 1) rfl _ (CellsAt.row H2.out) (by kernel_rfl) (by kernel_rfl) rfl ⟨rfl, Hm0.out _ _ _ Hm2.out⟩
end Go.Proofs.YtloplmaekonenaaGreatDoor

namespace Go.Proofs.YtloplmaekonenaaGreatDoor
set_option maxRecDepth 20000
open Go.RowKit

/-- '==' of values, field by field. -/
def V.eqG (a b : V) : Bool := a.kind == b.kind && (a.int == b.int && (fEq a.num b.num && (a.text.toList == b.text.toList && a.yes == b.yes)))

def V.kept (v : V) : Bool := if v.void then V.eqG { v.canon with num := 0 } { v with num := 0 } else V.eqG v.canon v

end Go.Proofs.YtloplmaekonenaaGreatDoor

namespace Go.Proofs.YtloplmaekonenaaGreatDoor
set_option maxRecDepth 20000
open Go.RowKit

/-- May byte number i be one of a name? -/
def nameAt (i : Nat) (b : UInt8) : Bool := (decide (97 ≤ b.toNat) && decide (b.toNat ≤ 122)) || (decide (0 < i) && decide (48 ≤ b.toNat) && decide (b.toNat ≤ 57))
def isName (s : ByteArray) : Bool := (s.data.toList.zipIdx.all fun x => nameAt x.2 x.1) && (decide (s.size ≠ 0) && decide (s.size ≤ 12))

theorem isName_no {s : ByteArray} {k : Nat} {b : UInt8} (h : s.data.toList[k]? = some b) (hb : nameAt k b = false) : isName s = false := by
  unfold isName
  have : (s.data.toList.zipIdx.all fun x => nameAt x.2 x.1) = false := by
    rw [List.all_eq_false]
    exact ⟨(b, k), List.mem_zipIdx_iff_getElem?.2 h, by simp [hb]⟩
  rw [this, Bool.false_and]
theorem isName_all {s : ByteArray} (h : ∀ j b, j < s.size → s.data.toList[j]? = some b → nameAt j b = true) : isName s = (decide (s.size ≠ 0) && decide (s.size ≤ 12)) := by
  unfold isName
  have : (s.data.toList.zipIdx.all fun x => nameAt x.2 x.1) = true := by
    rw [List.all_eq_true]
    rintro ⟨b, k⟩ hm
    have hb := List.mem_zipIdx_iff_getElem?.1 hm
    have hk := (List.getElem?_eq_some_iff.1 hb).1
    exact h k b hk hb
  rw [this, Bool.true_and]

theorem name_at (s : ByteArray) (hs : s.size ≤ 9223372036854775807) (w : World) : Calls Tryz.prog 76 #[.string s] w fun e w' => e = .returned (.bool (isName s)) ∧ w' = w := by
  have hs' : (s.size : Int) ≤ 9223372036854775807 := by omega
  have Hs := Lib.hid hs
  clear hs
  obtain ⟨R, hR⟩ : ∃ R, isName s = R := ⟨_, rfl⟩
  rw [hR]
  have HR := Lib.hid hR
  clear hR
  go_enter Tryz.func76, Tryz.ntmps76
  go_wp2_with fail
  go_loopw [6] (fun i wr => ∃ k : Nat, k ≤ s.size ∧ i = .int .i64 k ∧ wr = w ∧ (∀ j b, j < k → s.data.toList[j]? = some b → nameAt j b = true)) (fun i _ => s.size - (intOf i).toNat)
  case atStart => exact ⟨0, Nat.zero_le _, rfl, rfl, fun j b hj => by omega⟩
  case round =>
    obtain ⟨k, hk, rfl, hw, hall⟩ := hrel
    subst hw
    by_cases hlt : k < s.size
    · have hlt' : (k : Int) < s.size := by omega
      have Hall := Lib.hid hall
      clear hall
      have hsk : s.data.toList[k]? = some s[k] := by
        rw [List.getElem?_eq_getElem (show k < s.data.toList.length from hlt)]
        rfl
      have Hsk := Lib.hid hsk
      clear hsk
      have hcase : ((97 : Int) ≤ (s[k].toNat : Int) ∧ (s[k].toNat : Int) ≤ 122) ∨ (((s[k].toNat : Int) < 97 ∨ (122 : Int) < (s[k].toNat : Int)) ∧ 0 < k ∧ (48 : Int) ≤ (s[k].toNat : Int) ∧ (s[k].toNat : Int) ≤ 57) ∨ ((s[k].toNat : Int) < 97 ∧ k = 0) ∨ ((122 : Int) < (s[k].toNat : Int) ∧ k = 0) ∨ (0 < k ∧ (s[k].toNat : Int) < 48) ∨ (0 < k ∧ (57 : Int) < (s[k].toNat : Int) ∧ (s[k].toNat : Int) < 97) ∨ (0 < k ∧ (122 : Int) < (s[k].toNat : Int)) := by omega
      rcases hcase with ⟨h1, h2⟩ | ⟨h1, h2, h3, h4⟩ | ⟨h1, h2⟩ | ⟨h1, h2⟩ | ⟨h1, h2⟩ | ⟨h1, h2, h3⟩ | ⟨h1, h2⟩
      · go_wp2
        go_roundw
        case rel =>
          refine ⟨k + 1, by omega, by go_num, trivial, fun j b hj hb => ?_⟩
          rcases Nat.lt_succ_iff_lt_or_eq.1 hj with hj | hj
          · exact Hall.out j b hj hb
          · subst hj
            rw [Hsk.out] at hb
            cases hb
            unfold nameAt
            simp only [Bool.or_eq_true, Bool.and_eq_true, decide_eq_true_eq]
            omega
        case measure => simp [intOf]; omega
      · have h0' : (0 : Int) < k := by omega
        have h5 : (s[k].toNat : Int) < 97 := by omega
        clear h1
        go_wp2
        go_roundw
        case rel =>
          refine ⟨k + 1, by omega, by go_num, trivial, fun j b hj hb => ?_⟩
          rcases Nat.lt_succ_iff_lt_or_eq.1 hj with hj | hj
          · exact Hall.out j b hj hb
          · subst hj
            rw [Hsk.out] at hb
            cases hb
            unfold nameAt
            simp only [Bool.or_eq_true, Bool.and_eq_true, decide_eq_true_eq]
            omega
        case measure => simp [intOf]; omega
      · subst h2
        go_wp2
        all_goals first
          | (exfalso; omega)
          | (go_ret
             refine ⟨congrArg (fun b => Ending.returned (.bool b)) (((HR.out).symm.trans (isName_no Hsk.out ?_)).symm), rfl⟩
             unfold nameAt
             simp only [Bool.or_eq_false_iff, Bool.and_eq_false_iff, decide_eq_false_iff_not]
             omega)
      · subst h2
        have h5 : (97 : Int) ≤ (s[0].toNat : Int) := by omega
        have hd122 : decide ((s[0].toNat : Int) ≤ 122) = false := decide_eq_false (by omega)
        go_wp2
        all_goals first
          | (exfalso; omega)
          | (go_ret
             refine ⟨congrArg (fun b => Ending.returned (.bool b)) (((HR.out).symm.trans (isName_no Hsk.out ?_)).symm), rfl⟩
             unfold nameAt
             simp only [Bool.or_eq_false_iff, Bool.and_eq_false_iff, decide_eq_false_iff_not]
             omega)
      · have h0' : (0 : Int) < k := by omega
        have h5 : (s[k].toNat : Int) < 97 := by omega
        go_wp2
        all_goals first
          | (exfalso; omega)
          | (go_ret
             refine ⟨congrArg (fun b => Ending.returned (.bool b)) (((HR.out).symm.trans (isName_no Hsk.out ?_)).symm), rfl⟩
             unfold nameAt
             simp only [Bool.or_eq_false_iff, Bool.and_eq_false_iff, decide_eq_false_iff_not]
             omega)
      · have h0' : (0 : Int) < k := by omega
        have h5 : (48 : Int) ≤ (s[k].toNat : Int) := by omega
        have hd57 : decide ((s[k].toNat : Int) ≤ 57) = false := decide_eq_false (by omega)
        go_wp2
        all_goals first
          | (exfalso; omega)
          | (go_ret
             refine ⟨congrArg (fun b => Ending.returned (.bool b)) (((HR.out).symm.trans (isName_no Hsk.out ?_)).symm), rfl⟩
             unfold nameAt
             simp only [Bool.or_eq_false_iff, Bool.and_eq_false_iff, decide_eq_false_iff_not]
             omega)
      · have h0' : (0 : Int) < k := by omega
        have h5 : (97 : Int) ≤ (s[k].toNat : Int) := by omega
        have h6 : (48 : Int) ≤ (s[k].toNat : Int) := by omega
        have h7 : (57 : Int) < (s[k].toNat : Int) := by omega
        have hd57 : decide ((s[k].toNat : Int) ≤ 57) = false := decide_eq_false (by omega)
        have hd122 : decide ((s[k].toNat : Int) ≤ 122) = false := decide_eq_false (by omega)
        go_wp2
        all_goals first
          | (exfalso; omega)
          | (go_ret
             refine ⟨congrArg (fun b => Ending.returned (.bool b)) (((HR.out).symm.trans (isName_no Hsk.out ?_)).symm), rfl⟩
             unfold nameAt
             simp only [Bool.or_eq_false_iff, Bool.and_eq_false_iff, decide_eq_false_iff_not]
             omega)
    · obtain rfl : k = s.size := by omega
      have hn := isName_all hall
      rw [HR.out] at hn
      clear hall
      have hse : s.toList.isEmpty = decide (s.size = 0) := by
        rw [ByteArray.toList_eq]
        show s.data.toList.isEmpty = decide (s.data.toList.length = 0)
        cases s.data.toList <;> simp
      have hd : ((s.size : Int) ≤ 12) = (s.size ≤ 12) := by apply propext; omega
      by_cases h0 : s.size = 0
      · rw [decide_eq_true h0] at hse
        rw [decide_eq_false (by simp [h0]), Bool.false_and] at hn
        have HN := Lib.hid hn
        clear hn h0 hd
        go_wp2
        go_ret
        exact ⟨by rw [HN.out]; rfl, rfl⟩
      · rw [decide_eq_false h0] at hse
        rw [decide_eq_true h0, Bool.true_and] at hn
        have HN := Lib.hid hn
        have HD := Lib.hid hd
        clear hn h0 hd
        go_wp2
        go_ret
        refine ⟨?_, rfl⟩
        rw [HN.out]
        exact congrArg (fun b => Ending.returned (.bool b)) (by simp only [HD.out])
end Go.Proofs.YtloplmaekonenaaGreatDoor

namespace Go.Proofs.YtloplmaekonenaaGreatDoor
set_option maxRecDepth 20000
open Go.RowKit

/-- An attribute. -/
structure Att where
  name : ByteArray
  v : V
def Att.cells (a : Att) : List Value := .string a.name :: a.v.cells
theorem Att.cells_length (a : Att) : a.cells.length = 6 := rfl
def atts (l : List Att) : List Value := l.flatMap Att.cells

section
variable {P : Program} {a : Act} {w : World} {C : World → Prop}
/-- Behind a structure, so that nothing unfolds it. -/
structure QW (P : Program) (ops : Array Oper) (C : World → Prop) (Q : Act → Prop) (l : List Oper) (a : Act) : Prop where
  out : wpQuiet P ops C Q l a

/-- A region that draws its order, whose operations read old blocks and make new ones. -/
theorem wp_region_news {id : Nat} {Q : Exit → Act → World → Prop} {l : List Oper} (hm : P.follows .mixedOrders = true) (hB : Region.lexB .any l.toArray = true)
    (h : QW P l.toArray (fun w' => Mod (fun _ => False) w w') (fun a' => ∀ w', Mod (fun _ => False) w w' → Q .normal a' w') l a) : (Code.region id l.toArray true).wp P Q a w :=
  wp_region_quiet (C := fun w' => Mod (fun _ => False) w w') hm hB ((Mod.refl _ w).drew) (by simpa using h.out)

theorem quiet_val {o : Oper} {K : Act → Prop} (u : Value) (h : ∀ w, C w → (execOp a.eval o).run P w = .ok (.value u) w) (hk : K (a.put o.dst u)) : o.quiet P a C K :=
  ⟨u, fun w hw => by unfold Oper.quietAt; rw [h w hw]; exact ⟨rfl, rfl⟩, hk⟩
theorem quiet_call {o : Oper} {K : Act → Prop} {f : FuncId} {args : Array Value} (u : Value) (h : ∀ w, C w → (execOp a.eval o).run P w = .ok (.enter f args) w) (hc : ∀ w, C w → Calls P f args w fun e w'' => e = .returned u ∧ C w'')
    (hk : K (a.put o.dst u)) : o.quiet P a C K :=
  ⟨u, fun w hw => by unfold Oper.quietAt; rw [h w hw]; exact ⟨rfl, hc w hw⟩, hk⟩
theorem quiet_yes {ops : Array Oper} {rest : List Oper} {o : Oper} {Q : Act → Prop} (hg : Region.wanted o (yielded ops a.tmps) = true) (h : o.quiet P a C (wpQuiet P ops C Q rest)) : QW P ops C Q (o :: rest) a := by
  constructor; unfold wpQuiet; rw [if_pos hg]; exact h
theorem quiet_no {ops : Array Oper} {rest : List Oper} {o : Oper} {Q : Act → Prop} (hg : Region.wanted o (yielded ops a.tmps) = false) (h : wpQuiet P ops C Q rest (a.put o.dst undef)) : QW P ops C Q (o :: rest) a := by
  constructor; unfold wpQuiet; rw [if_neg (by rw [hg]; decide)]; exact h
theorem quiet_skip {ops : Array Oper} {rest : List Oper} {o : Oper} {Q : Act → Prop} (hg : Region.wanted o (yielded ops a.tmps) = false) (h : ∀ K : Act → Prop, (∀ a, QW P ops C Q rest a → K a) → K (a.put o.dst undef)) : QW P ops C Q (o :: rest) a :=
  quiet_no hg (h _ fun _ h => h.out)
theorem quiet_do {ops : Array Oper} {rest : List Oper} {o : Oper} {Q : Act → Prop} (hg : Region.wanted o (yielded ops a.tmps) = true) (u : Value) (hr : ∀ w, C w → (execOp a.eval o).run P w = .ok (.value u) w)
    (h : ∀ K : Act → Prop, (∀ a, QW P ops C Q rest a → K a) → K (a.put o.dst u)) : QW P ops C Q (o :: rest) a :=
  quiet_yes hg (quiet_val u hr (h _ fun _ h => h.out))
theorem quiet_in {ops : Array Oper} {rest : List Oper} {o : Oper} {Q : Act → Prop} (hg : Region.wanted o (yielded ops a.tmps) = true) (f : FuncId) (args : Array Value) (u : Value) (hr : ∀ w, C w → (execOp a.eval o).run P w = .ok (.enter f args) w)
    (hc : ∀ w, C w → Calls P f args w fun e w'' => e = .returned u ∧ C w'') (h : ∀ K : Act → Prop, (∀ a, QW P ops C Q rest a → K a) → K (a.put o.dst u)) : QW P ops C Q (o :: rest) a :=
  quiet_yes hg (quiet_call u hr hc (h _ fun _ h => h.out))
theorem quiet_end {ops : Array Oper} {Q : Act → Prop} (h : Q a) : QW P ops C Q [] a := ⟨h⟩
end

theorem val_struct : (match Tryz.prog.underlying 79 with | some (.struct _) => true | some (.array _ _) => true | _ => false) = true := by kernel_rfl
theorem val_size : (Tryz.prog.info? 79).map (·.size) = some 5 := by kernel_rfl
set_option maxRecDepth 20000 in
@[go_sem ↓] theorem run_load_val {ρ : Operand → Value} {dst : Option Tmp} {x : Operand} {type : TypeId} {pos : String} {after : Array Edge} {guard : Option (Nat × Bool)} {w : World} (h : AllV w (ρ x) 5) :
    Sem.run Tryz.prog (execOp ρ ⟨dst, .load 79 x, type, pos, after, guard⟩) w = .ok (.value (.agg (cellsV w (ρ x) 5))) w := run_load_all val_struct val_size h

end Go.Proofs.YtloplmaekonenaaGreatDoor
