/-
  Package event: kept.
  Package event: Name.
  Package event: Right.
-/
import Derived.Test.YtloplmaekonenaaGreatDoorZi2
import Derived.Laws.StructEq
import Derived.Deep.QuietTactic
import Derived.BigQuiet
import Derived.Laws.Cover1
namespace Go.Proofs.YtloplmaekonenaaGreatDoor
set_option maxRecDepth 20000
open Go.RowKit
def V.eqG (a b : V) : Bool := a.kind == b.kind && (a.int == b.int && (fEq a.num b.num && (a.text.toList == b.text.toList && a.yes == b.yes)))
theorem equalIn_float {P : Program} (w : World) (d : Nat) (t : TypeId) (a b : Nat) (h : P.underlying t = some (.float .f64)) : (Op.equalIn (d + 1) t (.float .f64 a) (.float .f64 b)).run P w = .ok (fEq a b) w := by
  simp [Op.equalIn, run_underlying h, Op.floatEq, fEq]
theorem eql_value (a b : V) (w : World) : (binOp .eql 79 (.agg a.cells.toArray) (.agg b.cells.toArray)).run Tryz.prog w = .ok (.bool (V.eqG a b)) w := by
  have hf : (Tryz.prog.fieldsOf 79).toList.map (fun f => (f.name == "_", f.type, f.offset)) = [(false, 3, 0), (false, 2, 1), (false, 77, 2), (false, 9, 3), (false, 4, 4)] := by kernel_rfl
  rw [run_eql_struct, run_equalIn_agg w 9999 _ _ _ (by kernel_rfl) (by kernel_rfl)]
  have h49 := fun w d a b => equalIn_float (P := Tryz.prog) w d 77 a b Tryz.underlying77
  obtain ⟨k1, i1, n1, t1, y1⟩ := a
  obtain ⟨k2, i2, n2, t2, y2⟩ := b
  unfold V.eqG V.cells
  simp [go_sem, Program.fieldsOf, Op.eqFields, h49]
  by_cases h1 : k1 = k2 <;> by_cases h2 : i1 = i2 <;> cases h3 : fEq n1 n2 <;> by_cases h4 : t1.toList = t2.toList <;> by_cases h5 : y1 = y2 <;> simp [h1, h2, h4, h5]
def V.kept (v : V) : Bool := if v.void then V.eqG { v.canon with num := 0 } { v with num := 0 } else V.eqG v.canon v
set_option maxHeartbeats 400000 in
set_option maxRecDepth 20000 in
theorem kept_at (v : V) (w : World) : Calls Tryz.prog 81 #[.agg v.cells.toArray] w fun e w' => e = .returned (.bool v.kept) ∧ Mod (fun _ => False) w w' := by
  have heq := fun a b => eql_value a b
  have hg1 : (w.alloc (.cells v.cells.toArray 79)).heap[w.heap.size]? = some (.cells v.cells.toArray 79 (0, 0)) := heap_alloc_new w _
  have Hc := Lib.hid fun w => value_canon v w
  have Hv := Lib.hid fun w => value_void v w
  have Hg1 := Lib.hid hg1
  have Heq := Lib.hid heq
  have hgd : Tryz.prog.eqGuardType Tryz.prog.depth 79 = false := by kernel_rfl
  clear hg1 heq
  obtain ⟨R, hR⟩ : ∃ R, v.kept = R := ⟨_, rfl⟩
  rw [hR]
  have HR := Lib.hid hR
  clear hR
  go_enter Tryz.func81, Tryz.ntmps81
  go_wp2_with (first | (refine wpList_load_cells rfl 79 (.tmp 1) rfl w.heap.size 0 rfl v.cells (CellsAt.row Hg1.out) (by kernel_rfl) (by kernel_rfl) ?_) | fail)
  refine (Hc.out _).mono ?_
  rintro e w1 ⟨rfl, hm1⟩
  have hg11 := hm1.heap Hg1.out (by simp)
  have hl1 : w.heap.size < w1.heap.size := (Array.getElem?_eq_some_iff.1 hg11).1
  have hm01 : Mod (fun _ => False) w w1 := ((Mod.refl (fun _ => False) w).alloc _).trans hm1 (fun _ _ h => h)
  have Hm01 := Lib.hid hm01
  have hg12 := heap_old (o := .cells v.canon.cells.toArray 79) hg11
  have hg3 := heap_alloc_new w1 (.cells v.canon.cells.toArray 79)
  have Hg12 := Lib.hid hg12
  have Hg3 := Lib.hid hg3
  clear hm1 hg11 hm01 hg12 hg3 Hc
  go_wp2_with (first | (refine wpList_store_new rfl 79 (.tmp 3) (.tmp 5) rfl rfl _ 79 v.canon.cells rfl rfl (by kernel_rfl) (fun u hu => List.all_eq_true.1 (show v.canon.cells.all (·.oneCell') = true from rfl) u hu) ?_) | (refine wpList_load_cells rfl 79 (.tmp 1) rfl w.heap.size 0 rfl v.cells (CellsAt.row Hg12.out) (by kernel_rfl) (by kernel_rfl) ?_) | fail)
  refine (Hv.out _).mono ?_
  rintro e w2 ⟨rfl, hm2⟩
  have hg13 := hm2.heap Hg12.out (by simp)
  have hg33 := hm2.heap Hg3.out (by simp)
  have hm02 : Mod (fun _ => False) w w2 := (Hm01.out.alloc _).trans hm2 (fun _ _ h => h)
  have Hm02 := Lib.hid hm02
  cases hvo : v.void with
  | false =>
    have Hvo := Lib.hid hvo
    have Hg13 := Lib.hid hg13
    have Hg33 := Lib.hid hg33
    have he := Heq.out v.canon v
    clear hm2 hg13 hg33 hm02 hvo Hv
    go_wp2_with (first | (refine wpList_load_cells rfl 79 (.tmp 3) rfl w1.heap.size 0 rfl v.canon.cells (CellsAt.row Hg33.out) (by kernel_rfl) (by kernel_rfl) ?_) | (refine wpList_load_cells rfl 79 (.tmp 1) rfl w.heap.size 0 rfl v.cells (CellsAt.row Hg13.out) (by kernel_rfl) (by kernel_rfl) ?_) | fail)
    go_ret
    have h := HR.out
    unfold V.kept at h
    rw [Hvo.out, if_neg (by decide)] at h
    subst h
    exact ⟨rfl, Hm02.out⟩
  | true =>
    have c3 : w2.cell? ⟨w1.heap.size, 2, none⟩ = some (.float .f64 v.canon.num) := cell_of hg33 rfl
    have f3 : w2.frozen? ⟨w1.heap.size, 2, none⟩ = false := fr_of hg33
    have c1 : w2.cell? ⟨w.heap.size, 2, none⟩ = some (.float .f64 v.num) := cell_of hg13 rfl
    have f1 : w2.frozen? ⟨w.heap.size, 2, none⟩ = false := fr_of hg13
    have hne : w.heap.size ≠ w1.heap.size := by omega
    have hne' : w1.heap.size ≠ w.heap.size := by omega
    have mA : Mod (fun k => k = w1.heap.size) w2 (w2.setCell ⟨w1.heap.size, 2, none⟩ (.float .f64 0)) := (Mod.refl (fun k => k = w1.heap.size) w2).setCell (fun _ => rfl) _
    have mB : Mod (fun k => k = w.heap.size) (w2.setCell ⟨w1.heap.size, 2, none⟩ (.float .f64 0)) ((w2.setCell ⟨w1.heap.size, 2, none⟩ (.float .f64 0)).setCell ⟨w.heap.size, 2, none⟩ (.float .f64 0)) := (Mod.refl (fun k => k = w.heap.size) (w2.setCell ⟨w1.heap.size, 2, none⟩ (.float .f64 0))).setCell (fun _ => rfl) _
    have hA3 : ((w2.setCell ⟨w1.heap.size, 2, none⟩ (.float .f64 0)).setCell ⟨w.heap.size, 2, none⟩ (.float .f64 0)).heap[w1.heap.size]? = some (.cells (V.cells { v.canon with num := 0 }).toArray 79 (0, 0)) := mB.heap (heap_set hg33) (by omega)
    have hA1 : ((w2.setCell ⟨w1.heap.size, 2, none⟩ (.float .f64 0)).setCell ⟨w.heap.size, 2, none⟩ (.float .f64 0)).heap[w.heap.size]? = some (.cells (V.cells { v with num := 0 }).toArray 79 (0, 0)) := heap_set (mA.heap hg13 (by omega))
    have hm3 : Mod (fun _ => False) w ((w2.setCell ⟨w1.heap.size, 2, none⟩ (.float .f64 0)).setCell ⟨w.heap.size, 2, none⟩ (.float .f64 0)) := (hm02.trans (mA.mono (fun k hk h => h)) (fun b hb h => by omega)).trans mB (fun b hb h => by omega)
    have Hvo := Lib.hid hvo
    have HA3 := Lib.hid hA3
    have HA1 := Lib.hid hA1
    have Hm3 := Lib.hid hm3
    have he := Heq.out { v.canon with num := 0 } { v with num := 0 }
    clear hm2 hg13 hg33 hm02 hvo Hv mA mB hA3 hA1 hm3
    go_wp2_with (first | (refine wpList_load_cells rfl 79 (.tmp 3) rfl w1.heap.size 0 rfl (V.cells { v.canon with num := 0 }) (CellsAt.row HA3.out) (by kernel_rfl) (by kernel_rfl) ?_) | (refine wpList_load_cells rfl 79 (.tmp 1) rfl w.heap.size 0 rfl (V.cells { v with num := 0 }) (CellsAt.row HA1.out) (by kernel_rfl) (by kernel_rfl) ?_) | fail)
    go_ret
    have h := HR.out
    unfold V.kept at h
    rw [Hvo.out, if_pos rfl] at h
    subst h
    exact ⟨rfl, Hm3.out⟩
end Go.Proofs.YtloplmaekonenaaGreatDoor
namespace Go.Proofs.YtloplmaekonenaaGreatDoor
set_option maxRecDepth 20000
open Go.RowKit
def nameAt (i : Nat) (b : UInt8) : Bool := (decide (97 ≤ b.toNat) && decide (b.toNat ≤ 122)) || (decide (0 < i) && decide (48 ≤ b.toNat) && decide (b.toNat ≤ 57))
def isName (s : ByteArray) : Bool := (s.data.toList.zipIdx.all fun x => nameAt x.2 x.1) && (decide (s.size ≠ 0) && decide (s.size ≤ 12))
theorem isName_no {s : ByteArray} {k : Nat} {b : UInt8} (h : s.data.toList[k]? = some b) (hb : nameAt k b = false) : isName s = false := by
  unfold isName
  have : (s.data.toList.zipIdx.all fun x => nameAt x.2 x.1) = false := by
    rw [List.all_eq_false]
    exact ⟨(b, k), List.mem_zipIdx_iff_getElem?.2 h, by simp [hb]⟩
  rw [this, Bool.false_and]
theorem isName_all {s : ByteArray} (h : ∀ j b, j < s.size → s.data.toList[j]? = some b → nameAt j b = true) : isName s = (decide (s.size ≠ 0) && decide (s.size ≤ 12)) := by
  unfold isName
  have : (s.data.toList.zipIdx.all fun x => nameAt x.2 x.1) = true := by
    rw [List.all_eq_true]
    rintro ⟨b, k⟩ hm
    have hb := List.mem_zipIdx_iff_getElem?.1 hm
    have hk := (List.getElem?_eq_some_iff.1 hb).1
    exact h k b hk hb
  rw [this, Bool.true_and]
theorem name_at (s : ByteArray) (hs : s.size ≤ 9223372036854775807) (w : World) : Calls Tryz.prog 76 #[.string s] w fun e w' => e = .returned (.bool (isName s)) ∧ w' = w := by
  have hs' : (s.size : Int) ≤ 9223372036854775807 := by omega
  have Hs := Lib.hid hs
  clear hs
  obtain ⟨R, hR⟩ : ∃ R, isName s = R := ⟨_, rfl⟩
  rw [hR]
  have HR := Lib.hid hR
  clear hR
  go_enter Tryz.func76, Tryz.ntmps76
  go_wp2_with fail
  go_loopw [6] (fun i wr => ∃ k : Nat, k ≤ s.size ∧ i = .int .i64 k ∧ wr = w ∧ (∀ j b, j < k → s.data.toList[j]? = some b → nameAt j b = true)) (fun i _ => s.size - (intOf i).toNat)
  case atStart => exact ⟨0, Nat.zero_le _, rfl, rfl, fun j b hj => by omega⟩
  case round =>
    obtain ⟨k, hk, rfl, hw, hall⟩ := hrel
    subst hw
    by_cases hlt : k < s.size
    · have hlt' : (k : Int) < s.size := by omega
      have Hall := Lib.hid hall
      clear hall
      have hsk : s.data.toList[k]? = some s[k] := by
        rw [List.getElem?_eq_getElem (show k < s.data.toList.length from hlt)]
        rfl
      have Hsk := Lib.hid hsk
      clear hsk
      have hcase : ((97 : Int) ≤ (s[k].toNat : Int) ∧ (s[k].toNat : Int) ≤ 122) ∨ (((s[k].toNat : Int) < 97 ∨ (122 : Int) < (s[k].toNat : Int)) ∧ 0 < k ∧ (48 : Int) ≤ (s[k].toNat : Int) ∧ (s[k].toNat : Int) ≤ 57) ∨ ((s[k].toNat : Int) < 97 ∧ k = 0) ∨ ((122 : Int) < (s[k].toNat : Int) ∧ k = 0) ∨ (0 < k ∧ (s[k].toNat : Int) < 48) ∨ (0 < k ∧ (57 : Int) < (s[k].toNat : Int) ∧ (s[k].toNat : Int) < 97) ∨ (0 < k ∧ (122 : Int) < (s[k].toNat : Int)) := by omega
      rcases hcase with ⟨h1, h2⟩ | ⟨h1, h2, h3, h4⟩ | ⟨h1, h2⟩ | ⟨h1, h2⟩ | ⟨h1, h2⟩ | ⟨h1, h2, h3⟩ | ⟨h1, h2⟩
      · go_wp2
        go_roundw
        case rel =>
          refine ⟨k + 1, by omega, by go_num, trivial, fun j b hj hb => ?_⟩
          rcases Nat.lt_succ_iff_lt_or_eq.1 hj with hj | hj
          · exact Hall.out j b hj hb
          · subst hj
            rw [Hsk.out] at hb
            cases hb
            unfold nameAt
            simp only [Bool.or_eq_true, Bool.and_eq_true, decide_eq_true_eq]
            omega
        case measure => simp [intOf]; omega
      · have h0' : (0 : Int) < k := by omega
        have h5 : (s[k].toNat : Int) < 97 := by omega
        clear h1
        go_wp2
        go_roundw
        case rel =>
          refine ⟨k + 1, by omega, by go_num, trivial, fun j b hj hb => ?_⟩
          rcases Nat.lt_succ_iff_lt_or_eq.1 hj with hj | hj
          · exact Hall.out j b hj hb
          · subst hj
            rw [Hsk.out] at hb
            cases hb
            unfold nameAt
            simp only [Bool.or_eq_true, Bool.and_eq_true, decide_eq_true_eq]
            omega
        case measure => simp [intOf]; omega
      · subst h2
        go_wp2
        all_goals first
          | (exfalso; omega)
          | (go_ret
             refine ⟨congrArg (fun b => Ending.returned (.bool b)) (((HR.out).symm.trans (isName_no Hsk.out ?_)).symm), rfl⟩
             unfold nameAt
             simp only [Bool.or_eq_false_iff, Bool.and_eq_false_iff, decide_eq_false_iff_not]
             omega)
      · subst h2
        have h5 : (97 : Int) ≤ (s[0].toNat : Int) := by omega
        have hd122 : decide ((s[0].toNat : Int) ≤ 122) = false := decide_eq_false (by omega)
        go_wp2
        all_goals first
          | (exfalso; omega)
          | (go_ret
             refine ⟨congrArg (fun b => Ending.returned (.bool b)) (((HR.out).symm.trans (isName_no Hsk.out ?_)).symm), rfl⟩
             unfold nameAt
             simp only [Bool.or_eq_false_iff, Bool.and_eq_false_iff, decide_eq_false_iff_not]
             omega)
      · have h0' : (0 : Int) < k := by omega
        have h5 : (s[k].toNat : Int) < 97 := by omega
        go_wp2
        all_goals first
          | (exfalso; omega)
          | (go_ret
             refine ⟨congrArg (fun b => Ending.returned (.bool b)) (((HR.out).symm.trans (isName_no Hsk.out ?_)).symm), rfl⟩
             unfold nameAt
             simp only [Bool.or_eq_false_iff, Bool.and_eq_false_iff, decide_eq_false_iff_not]
             omega)
      · have h0' : (0 : Int) < k := by omega
        have h5 : (48 : Int) ≤ (s[k].toNat : Int) := by omega
        have hd57 : decide ((s[k].toNat : Int) ≤ 57) = false := decide_eq_false (by omega)
        go_wp2
        all_goals first
          | (exfalso; omega)
          | (go_ret
             refine ⟨congrArg (fun b => Ending.returned (.bool b)) (((HR.out).symm.trans (isName_no Hsk.out ?_)).symm), rfl⟩
             unfold nameAt
             simp only [Bool.or_eq_false_iff, Bool.and_eq_false_iff, decide_eq_false_iff_not]
             omega)
      · have h0' : (0 : Int) < k := by omega
        have h5 : (97 : Int) ≤ (s[k].toNat : Int) := by omega
        have h6 : (48 : Int) ≤ (s[k].toNat : Int) := by omega
        have h7 : (57 : Int) < (s[k].toNat : Int) := by omega
        have hd57 : decide ((s[k].toNat : Int) ≤ 57) = false := decide_eq_false (by omega)
        have hd122 : decide ((s[k].toNat : Int) ≤ 122) = false := decide_eq_false (by omega)
        go_wp2
        all_goals first
          | (exfalso; omega)
          | (go_ret
             refine ⟨congrArg (fun b => Ending.returned (.bool b)) (((HR.out).symm.trans (isName_no Hsk.out ?_)).symm), rfl⟩
             unfold nameAt
             simp only [Bool.or_eq_false_iff, Bool.and_eq_false_iff, decide_eq_false_iff_not]
             omega)
    · obtain rfl : k = s.size := by omega
      have hn := isName_all hall
      rw [HR.out] at hn
      clear hall
      have hse : s.toList.isEmpty = decide (s.size = 0) := by
        rw [ByteArray.toList_eq]
        show s.data.toList.isEmpty = decide (s.data.toList.length = 0)
        cases s.data.toList <;> simp
      have hd : ((s.size : Int) ≤ 12) = (s.size ≤ 12) := by apply propext; omega
      by_cases h0 : s.size = 0
      · rw [decide_eq_true h0] at hse
        rw [decide_eq_false (by simp [h0]), Bool.false_and] at hn
        have HN := Lib.hid hn
        clear hn h0 hd
        go_wp2
        go_ret
        exact ⟨by rw [HN.out]; rfl, rfl⟩
      · rw [decide_eq_false h0] at hse
        rw [decide_eq_true h0, Bool.true_and] at hn
        have HN := Lib.hid hn
        have HD := Lib.hid hd
        clear hn h0 hd
        go_wp2
        go_ret
        refine ⟨?_, rfl⟩
        rw [HN.out]
        exact congrArg (fun b => Ending.returned (.bool b)) (by simp only [HD.out])
end Go.Proofs.YtloplmaekonenaaGreatDoor
namespace Go.Proofs.YtloplmaekonenaaGreatDoor
set_option maxRecDepth 20000
open Go.RowKit
structure Att where
  name : ByteArray
  v : V
def Att.cells (a : Att) : List Value := .string a.name :: a.v.cells
theorem Att.cells_length (a : Att) : a.cells.length = 6 := rfl
def atts (l : List Att) : List Value := l.flatMap Att.cells
theorem atts_at (l : List Att) {k j : Nat} {a : Att} {u : Value} (h : l[k]? = some a) (hj : a.cells[j]? = some u) : (atts l)[6 * k + j]? = some u := by
  induction l generalizing k with
  | nil => simp at h
  | cons b l ih =>
    unfold atts at ih ⊢
    rw [List.flatMap_cons]
    cases k with
    | zero =>
      simp only [List.getElem?_cons_zero, Option.some.injEq] at h
      subst h
      have := (List.getElem?_eq_some_iff.1 hj).1
      rw [List.getElem?_append_left (by omega), Nat.mul_zero, Nat.zero_add, hj]
    | succ k =>
      rw [List.getElem?_cons_succ] at h
      rw [List.getElem?_append_right (by rw [Att.cells_length]; omega), Att.cells_length, show 6 * (k + 1) + j - 6 = 6 * k + j by omega]
      exact ih h
section
variable {P : Program} {a : Act} {w : World} {C : World → Prop}
structure QW (P : Program) (ops : Array Oper) (C : World → Prop) (Q : Act → Prop) (l : List Oper) (a : Act) : Prop where
  out : wpQuiet P ops C Q l a
theorem wp_region_news {id : Nat} {Q : Exit → Act → World → Prop} {l : List Oper} (hm : P.follows .mixedOrders = true) (hB : Region.lexB .any l.toArray = true)
    (h : QW P l.toArray (fun w' => Mod (fun _ => False) w w') (fun a' => ∀ w', Mod (fun _ => False) w w' → Q .normal a' w') l a) : (Code.region id l.toArray true).wp P Q a w :=
  wp_region_quiet (C := fun w' => Mod (fun _ => False) w w') hm hB ((Mod.refl _ w).drew) (by simpa using h.out)
theorem quiet_val {o : Oper} {K : Act → Prop} (u : Value) (h : ∀ w, C w → (execOp a.eval o).run P w = .ok (.value u) w) (hk : K (a.put o.dst u)) : o.quiet P a C K :=
  ⟨u, fun w hw => by unfold Oper.quietAt; rw [h w hw]; exact ⟨rfl, rfl⟩, hk⟩
theorem quiet_call {o : Oper} {K : Act → Prop} {f : FuncId} {args : Array Value} (u : Value) (h : ∀ w, C w → (execOp a.eval o).run P w = .ok (.enter f args) w) (hc : ∀ w, C w → Calls P f args w fun e w'' => e = .returned u ∧ C w'')
    (hk : K (a.put o.dst u)) : o.quiet P a C K :=
  ⟨u, fun w hw => by unfold Oper.quietAt; rw [h w hw]; exact ⟨rfl, hc w hw⟩, hk⟩
theorem quiet_yes {ops : Array Oper} {rest : List Oper} {o : Oper} {Q : Act → Prop} (hg : Region.wanted o (yielded ops a.tmps) = true) (h : o.quiet P a C (wpQuiet P ops C Q rest)) : QW P ops C Q (o :: rest) a := by
  constructor; unfold wpQuiet; rw [if_pos hg]; exact h
theorem quiet_no {ops : Array Oper} {rest : List Oper} {o : Oper} {Q : Act → Prop} (hg : Region.wanted o (yielded ops a.tmps) = false) (h : wpQuiet P ops C Q rest (a.put o.dst undef)) : QW P ops C Q (o :: rest) a := by
  constructor; unfold wpQuiet; rw [if_neg (by rw [hg]; decide)]; exact h
theorem quiet_skip {ops : Array Oper} {rest : List Oper} {o : Oper} {Q : Act → Prop} (hg : Region.wanted o (yielded ops a.tmps) = false) (h : ∀ K : Act → Prop, (∀ a, QW P ops C Q rest a → K a) → K (a.put o.dst undef)) : QW P ops C Q (o :: rest) a :=
  quiet_no hg (h _ fun _ h => h.out)
theorem quiet_do {ops : Array Oper} {rest : List Oper} {o : Oper} {Q : Act → Prop} (hg : Region.wanted o (yielded ops a.tmps) = true) (u : Value) (hr : ∀ w, C w → (execOp a.eval o).run P w = .ok (.value u) w)
    (h : ∀ K : Act → Prop, (∀ a, QW P ops C Q rest a → K a) → K (a.put o.dst u)) : QW P ops C Q (o :: rest) a :=
  quiet_yes hg (quiet_val u hr (h _ fun _ h => h.out))
theorem quiet_in {ops : Array Oper} {rest : List Oper} {o : Oper} {Q : Act → Prop} (hg : Region.wanted o (yielded ops a.tmps) = true) (f : FuncId) (args : Array Value) (u : Value) (hr : ∀ w, C w → (execOp a.eval o).run P w = .ok (.enter f args) w)
    (hc : ∀ w, C w → Calls P f args w fun e w'' => e = .returned u ∧ C w'') (h : ∀ K : Act → Prop, (∀ a, QW P ops C Q rest a → K a) → K (a.put o.dst u)) : QW P ops C Q (o :: rest) a :=
  quiet_yes hg (quiet_call u hr hc (h _ fun _ h => h.out))
theorem quiet_end {ops : Array Oper} {Q : Act → Prop} (h : Q a) : QW P ops C Q [] a := ⟨h⟩
end
def okAt (l : List Att) (k : Nat) : Bool :=
  match l[k]? with
  | none => true
  | some a => isName a.name && a.v.right && (match k with | 0 => true | k + 1 => match l[k]? with | none => true | some b => Op.bytesLess b.name.toList a.name.toList) && a.v.kept
def evRight (l : List Att) : Bool := (List.range l.length).all (okAt l) && decide (l.length ≤ 8)
theorem okAt_is {l : List Att} {k : Nat} {x q : Att} (h : l[k]? = some x) (hq : l[k - 1]? = some q) : okAt l k = (isName x.name && x.v.right && (decide (k = 0) || Op.bytesLess q.name.toList x.name.toList) && x.v.kept) := by
  unfold okAt
  rw [h]
  cases k with
  | zero => rfl
  | succ k =>
    rw [Nat.add_sub_cancel] at hq
    simp only [hq]
    rw [decide_eq_false (by omega), Bool.false_or]
theorem evRight_no {l : List Att} {k : Nat} (hk : k < l.length) (h : okAt l k = false) : evRight l = false := by
  unfold evRight
  rw [List.all_eq_false.2 ⟨k, List.mem_range.2 hk, by rw [h]; decide⟩, Bool.false_and]
theorem evRight_all {l : List Att} (h : ∀ j, j < l.length → okAt l j = true) : evRight l = decide (l.length ≤ 8) := by
  unfold evRight
  rw [List.all_eq_true.2 fun j hj => h j (List.mem_range.1 hj), Bool.true_and]
theorem okcases {p : Prop} (n r z l k : Bool) (h1 : n = false → p) (h2 : n = true → r = false → p) (h3 : n = true → r = true → z = true → k = false → p) (h4 : n = true → r = true → z = true → k = true → p)
    (h5 : n = true → r = true → z = false → l = false → p) (h6 : n = true → r = true → z = false → l = true → k = false → p) (h7 : n = true → r = true → z = false → l = true → k = true → p) : p := by
  cases n
  · exact h1 rfl
  cases r
  · exact h2 rfl rfl
  cases z
  · cases l
    · exact h5 rfl rfl rfl rfl
    cases k
    · exact h6 rfl rfl rfl rfl rfl
    · exact h7 rfl rfl rfl rfl rfl
  · cases k
    · exact h3 rfl rfl rfl rfl
    · exact h4 rfl rfl rfl rfl
theorem val_struct : (match Tryz.prog.underlying 79 with | some (.struct _) => true | some (.array _ _) => true | _ => false) = true := by kernel_rfl
theorem val_size : (Tryz.prog.info? 79).map (·.size) = some 5 := by kernel_rfl
set_option maxRecDepth 20000 in
@[go_sem ↓] theorem run_load_val {ρ : Operand → Value} {dst : Option Tmp} {x : Operand} {type : TypeId} {pos : String} {after : Array Edge} {guard : Option (Nat × Bool)} {w : World} (h : AllV w (ρ x) 5) :
    Sem.run Tryz.prog (execOp ρ ⟨dst, .load 79 x, type, pos, after, guard⟩) w = .ok (.value (.agg (cellsV w (ρ x) 5))) w := run_load_all val_struct val_size h
set_option maxHeartbeats 4000000 in
set_option maxRecDepth 20000 in
theorem right_at (sc : ByteArray) (av : Value) (l : List Att) (w : World) (h : RdSl w 6 av l.length (atts l)) (hl : l.length ≤ 100000) (hsz : ∀ x ∈ l, x.name.size ≤ 9223372036854775807) :
    Calls Tryz.prog 45 #[.agg #[.string sc, av]] w fun e w' => e = .returned (.bool (evRight l)) ∧ Mod (fun _ => False) w w' := by
  have h0 := h
  obtain ⟨h1, a, cap, rfl, h2, h3, h4⟩ := h
  have hl' : (l.length : Int) ≤ 100000 := by omega
  obtain ⟨R, hR⟩ : ∃ R, evRight l = R := ⟨_, rfl⟩
  rw [hR]
  have HR := Lib.hid hR
  have H0 := Lib.hid h0
  have H4 := Lib.hid h4
  have H1 := Lib.hid h1
  have H3 := Lib.hid h3
  have Hsz := Lib.hid hsz
  clear h0 h4 h1 hl hR h3 hsz
  go_enter Tryz.func45, Tryz.ntmps45
  go_wp2_with fail
  go_loopw [8] (fun i wr => ∃ k : Nat, k ≤ l.length ∧ i = .int .i64 k ∧ Mod (fun _ => False) (w.alloc (.cells #[.string sc, .slice a l.length cap] 32)) wr ∧ (∀ j, j < k → okAt l j = true)) (fun i _ => l.length - (intOf i).toNat)
  case atStart => exact ⟨0, Nat.zero_le _, rfl, Mod.refl _ _, fun j hj => by omega⟩
  case round =>
    obtain ⟨k, hk, rfl, hm, hall⟩ := hrel
    have hbox := hm.heap (heap_alloc_new w _) (by simp)
    have hm0 : Mod (fun _ => False) w wr := ((Mod.refl (fun _ => False) w).alloc _).trans hm (fun _ _ h => h)
    have Hbox := Lib.hid hbox
    have Hm0 := Lib.hid hm0
    have Hall := Lib.hid hall
    have Hm := Lib.hid hm
    clear hbox hm0 hall hm
    by_cases hlt : k < l.length
    · have hlt' : (k : Int) < l.length := by omega
      obtain ⟨x, hx⟩ : ∃ x, l[k]? = some x := ⟨_, List.getElem?_eq_getElem hlt⟩
      obtain ⟨b, hab⟩ : ∃ b, a = some b := by
        cases a with
        | none => have := H3.out rfl; omega
        | some b => exact ⟨b, rfl⟩
      obtain ⟨p, off, rfl, hc⟩ := H4.out b hab (by omega)
      subst hab
      have hxs : CellsAt wr p (off + k * 6) x.cells := by
        intro j u hu
        have := Hm0.out.cell (hc (6 * k + j) u (atts_at l hx hu)) (by simp)
        rw [show off + k * 6 + j = off + (6 * k + j) by omega]
        exact this
      have c0 : wr.cell? ⟨p, off + k * 6, none⟩ = some (.string x.name) := hxs 0 _ rfl
      have c1 : wr.cell? ⟨p, off + k * 6 + 1, none⟩ = some (.int .i64 x.v.kind) := hxs 1 _ rfl
      have c2 : wr.cell? ⟨p, off + k * 6 + 2, none⟩ = some (.int .i64 x.v.int) := hxs 2 _ rfl
      have c3 : wr.cell? ⟨p, off + k * 6 + 3, none⟩ = some (.float .f64 x.v.num) := hxs 3 _ rfl
      have c4 : wr.cell? ⟨p, off + k * 6 + 4, none⟩ = some (.string x.v.text) := hxs 4 _ rfl
      have c5 : wr.cell? ⟨p, off + k * 6 + 5, none⟩ = some (.bool x.v.yes) := hxs 5 _ rfl
      have Hxs := Lib.hid hxs
      have Hc := Lib.hid hc
      have Hx := Lib.hid hx
      clear hxs hc hx H3 H4
      go_wp2_with (first | (refine wpList_store_new rfl 90 (.tmp 4) (.tmp 12) rfl rfl _ 90 x.cells rfl rfl (by kernel_rfl) (fun u hu => List.all_eq_true.1 (show x.cells.all (·.oneCell') = true from rfl) u hu) ?_) | fail)
      have hW := heap_alloc_new wr (.cells x.cells.toArray 90)
      obtain ⟨q, hq⟩ : ∃ q, l[k - 1]? = some q := ⟨_, List.getElem?_eq_getElem (by omega)⟩
      have hcq : wr.cell? ⟨p, off + (k - 1) * 6, none⟩ = some (.string q.name) := by
        have := Hm0.out.cell (Hc.out (6 * (k - 1) + 0) (.string q.name) (atts_at l hq rfl)) (by simp)
        rw [show off + (k - 1) * 6 = off + (6 * (k - 1) + 0) by omega]
        exact this
      have hf : ∀ w', Mod (fun _ => False) (wr.alloc (.cells x.cells.toArray 90)) w' → w'.cell? ⟨wr.heap.size, 0, none⟩ = some (.string x.name) ∧ AllCells w' wr.heap.size 1 5 ∧ cellsOf w' wr.heap.size 1 5 = x.v.cells.toArray ∧ w'.cell? ⟨w.heap.size, 1, none⟩ = some (.slice (some ⟨p, off, none⟩) l.length cap) ∧ w'.cell? ⟨p, off + (k - 1) * 6, none⟩ = some (.string q.name) := by
        intro w' hw'
        have h1 := hw'.heap hW (by simp)
        have h2 : CellsAt w' wr.heap.size 1 x.v.cells := fun j u hu => by have := CellsAt.row h1 (j + 1) u (by simpa [Att.cells] using hu); rw [show 1 + j = 0 + (j + 1) by omega]; exact this
        have hmq : Mod (fun _ => False) wr w' := ((Mod.refl (fun _ => False) wr).alloc _).trans hw' (fun _ _ h => h)
        exact ⟨cell_of h1 rfl, h2.all rfl, h2.is rfl, cell_of (hw'.heap (heap_old Hbox.out) (by simp)) rfl, hmq.cell hcq (by simp)⟩
      have Hf := Lib.hid hf
      have hname : ∀ w', Mod (fun _ => False) (wr.alloc (.cells x.cells.toArray 90)) w' → Calls Tryz.prog 76 #[.string x.name] w' fun e w'' => e = .returned (.bool (isName x.name)) ∧ Mod (fun _ => False) (wr.alloc (.cells x.cells.toArray 90)) w'' :=
        fun w' hw' => (name_at x.name (Hsz.out x (List.mem_of_getElem? Hx.out)) w').mono fun e w'' h => ⟨h.1, h.2 ▸ hw'⟩
      have hrg : ∀ w', Mod (fun _ => False) (wr.alloc (.cells x.cells.toArray 90)) w' → Calls Tryz.prog 80 #[.agg x.v.cells.toArray] w' fun e w'' => e = .returned (.bool x.v.right) ∧ Mod (fun _ => False) (wr.alloc (.cells x.cells.toArray 90)) w'' :=
        fun w' hw' => (value_right x.v w').mono fun e w'' h => ⟨h.1, hw'.trans h.2 (fun _ _ h => h)⟩
      have hkp : ∀ w', Mod (fun _ => False) (wr.alloc (.cells x.cells.toArray 90)) w' → Calls Tryz.prog 81 #[.agg x.v.cells.toArray] w' fun e w'' => e = .returned (.bool x.v.kept) ∧ Mod (fun _ => False) (wr.alloc (.cells x.cells.toArray 90)) w'' :=
        fun w' hw' => (kept_at x.v w').mono fun e w'' h => ⟨h.1, hw'.trans h.2 (fun _ _ h => h)⟩
      have Hname := Lib.hid hname
      have Hrg := Lib.hid hrg
      have Hkp := Lib.hid hkp
      have hok := okAt_is Hx.out hq
      have Hok := Lib.hid hok
      have hM := Hm.out.alloc (.cells x.cells.toArray 90)
      have HM := Lib.hid hM
      clear hM
      clear hf hW hname hrg hkp hq hcq hok c0 c1 c2 c3 c4 c5
      refine okcases (isName x.name) x.v.right (decide (k = 0)) (Op.bytesLess q.name.toList x.name.toList) x.v.kept (fun hn => ?_) (fun hn hr => ?_) (fun hn hr hz hkt => ?_) (fun hn hr hz hkt => ?_) (fun hn hr hz hls => ?_) (fun hn hr hz hls hkt => ?_) (fun hn hr hz hls hkt => ?_)
      all_goals try rw [hn] at Hname Hok
      all_goals try rw [hr] at Hrg Hok
      all_goals try rw [hkt] at Hkp Hok
      all_goals try rw [hz] at Hok
      all_goals try rw [hls] at Hok
      all_goals try simp only [decide_eq_true_eq, decide_eq_false_iff_not] at hz
      all_goals clear Hx Hxs Hc Hsz
      all_goals try (obtain rfl := hz)
      all_goals try (
        rcases Nat.eq_zero_or_pos k with hk0 | hk0
        · exfalso; omega
        obtain ⟨m, hmk⟩ : ∃ m, k = m + 1 := ⟨k - 1, by omega⟩
        subst hmk
        have hmw : IntKind.i64.wrap (m : Int) = m := by rw [IntKind.wrap_i64]; omega
        have hml : (m : Int) < l.length := by omega)
      all_goals try rw [Nat.add_sub_cancel] at Hf
      all_goals refine wp_region_news (by kernel_rfl) (by kernel_rfl) ?_
      all_goals
        iterate 32 (first
          | (refine quiet_skip ?_ (fun K hK => ?_)
             · first | (go_simp; done) | (go_simp; simp [undef]; done)
             go_simp; refine hK _ ?_; clear hK K)
          | (refine quiet_do ?_ ?_ (fun w' hw' => ?_) (fun K hK => ?_)
             · first | (go_simp; done) | (go_simp; simp [undef]; done)
             rotate_left
             · obtain ⟨f1, f2, f3, f4, f5⟩ := Hf.out w' hw'
               go_simp
               rfl
             go_simp; refine hK _ ?_; clear hK K)
          | (refine quiet_in ?_ ?_ ?_ ?_ (fun w' hw' => ?_) ?_ (fun K hK => ?_)
             · first | (go_simp; done) | (go_simp; simp [undef]; done)
             rotate_left 3
             · obtain ⟨f1, f2, f3, f4, f5⟩ := Hf.out w' hw'
               go_simp
               constructor <;> rfl
             · first | exact Hname.out | exact Hrg.out | exact Hkp.out
             go_simp; refine hK _ ?_; clear hK K))
      all_goals refine quiet_end (fun w' hw' => ?_)
      all_goals have hM2 := HM.out.trans hw' (fun _ _ h => h)
      all_goals have hM0 := ((Mod.refl (fun _ => False) w).alloc _).trans hM2 (fun _ _ h => h)
      all_goals have HM2 := Lib.hid hM2
      all_goals have HM0 := Lib.hid hM0
      all_goals have Hok' := Lib.hid Hok.out
      all_goals clear hM2 hM0 hw' Hok
      all_goals go_wp2
      all_goals first
        | (go_ret
           exact ⟨congrArg (fun b => Ending.returned (.bool b)) ((evRight_no (by omega) Hok'.out).symm.trans HR.out), HM0.out⟩)
        | (go_roundw
           case rel =>
             refine ⟨_, hlt, by go_num, HM2.out, fun j hj => ?_⟩
             rcases Nat.lt_succ_iff_lt_or_eq.1 hj with hj | rfl
             · exact Hall.out j hj
             · exact Hok'.out
           case measure => simp [intOf]; omega)
    · obtain rfl : k = l.length := by omega
      have hn := evRight_all Hall.out
      rw [HR.out] at hn
      have hd : decide ((l.length : Int) ≤ 8) = R := by rw [hn]; congr 1; apply propext; omega
      have HD := Lib.hid hd
      have cb : wr.cell? ⟨w.heap.size, 1, none⟩ = some (.slice a l.length cap) := cell_of Hbox.out rfl
      clear hn hd
      go_wp2
      go_ret
      exact ⟨congrArg (fun b => Ending.returned (.bool b)) HD.out, Hm0.out⟩
end Go.Proofs.YtloplmaekonenaaGreatDoor
