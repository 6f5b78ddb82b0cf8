/-
  Package scope: Right.
  Laws for single operations that name the operation as it stands: an operation of another kind is refused at once.
  Package event: an attribute's place (slices.BinarySearchFunc), of attributes that rise by their names.
-/
import Derived.Test.YtaenebdppkjhoaaGreatDoorZa5
import Derived.Test.YtaenebdppkjhoaaGreatDoorZa3
import Derived.Test.YtaenebdppkjhoaaGreatDoorZa2
namespace Go.Proofs.YtaenebdppkjhoaaGreatDoor
set_option maxRecDepth 20000
open Go.RowKit

/-- How many names with '/' between; none: not all are names. -/
def scN : Nat → ByteArray → Option Nat
  | 0, _ => none
  | f + 1, s => if isName (cutS s).1 = true then (if (cutS s).2.2 = true then (scN f (cutS s).2.1).map (· + 1) else some 1) else none
theorem scN_succ (f : Nat) (s : ByteArray) : scN (f + 1) s = if isName (cutS s).1 = true then (if (cutS s).2.2 = true then (scN f (cutS s).2.1).map (· + 1) else some 1) else none := rfl
theorem scN_fuel : ∀ (f g : Nat) (s : ByteArray), s.size < f → s.size < g → scN f s = scN g s
  | 0, _, s, h, _ => by omega
  | _ + 1, 0, s, _, h => by omega
  | f + 1, g + 1, s, h1, h2 => by
    rw [scN_succ, scN_succ]
    split
    · split
      · rename_i h
        have := cut_rest h
        rw [scN_fuel f g (cutS s).2.1 (by omega) (by omega)]
      · rfl
    · rfl
def scM (n : Nat) (s : ByteArray) : Bool := match scN (s.size + 1) s with
  | some k => decide (n + k ≤ 4)
  | none => false
def scRight (s : ByteArray) : Bool := s.toList.isEmpty || scM 0 s

theorem name_pos {s : ByteArray} (h : isName s = true) : 0 < s.size := by
  unfold isName at h
  simp only [Bool.and_eq_true, decide_eq_true_eq] at h
  omega
theorem scM_no {n : Nat} {s : ByteArray} (h : isName (cutS s).1 = false) : scM n s = false := by
  unfold scM
  rw [scN_succ, if_neg (by rw [h]; decide)]
theorem scM_more {n : Nat} {s : ByteArray} (h : isName (cutS s).1 = true) (hm : (cutS s).2.2 = true) : scM n s = scM (n + 1) (cutS s).2.1 := by
  have := cut_rest hm
  unfold scM
  rw [scN_succ, if_pos h, if_pos hm, scN_fuel s.size ((cutS s).2.1.size + 1) _ (by omega) (by omega)]
  cases scN ((cutS s).2.1.size + 1) (cutS s).2.1 with
  | none => rfl
  | some k => 
    show decide (n + (k + 1) ≤ 4) = decide (n + 1 + k ≤ 4)
    congr 1
    rw [Nat.add_assoc, Nat.add_comm 1 k]
theorem scM_last {n : Nat} {s : ByteArray} (h : isName (cutS s).1 = true) (hm : (cutS s).2.2 = false) : scM n s = decide (n + 1 ≤ 4) := by
  unfold scM
  rw [scN_succ, if_pos h, if_neg (by rw [hm]; decide)]

set_option maxHeartbeats 1000000 in
theorem scope_right (s : ByteArray) (hs : s.size ≤ 9223372036854775807) (w : World) : Calls Tryz.prog 20 #[.string s] w fun e w' => e = .returned (.bool (scRight s)) ∧ Mod (fun _ => False) w w' := by
  cases he : s.toList.isEmpty with
  | true =>
    have h2 : scRight s = true := by unfold scRight; rw [he]; rfl
    rw [h2]
    clear h2 hs
    go_enter Tryz.func20, Tryz.ntmps20
    go_wp2
    go_ret
    exact ⟨rfl, Mod.refl _ _⟩
  | false =>
    obtain ⟨R, hR⟩ : ∃ R, scRight s = R := ⟨_, rfl⟩
    have hR0 : scM 0 s = R := by rw [← hR]; unfold scRight; rw [he]; rfl
    rw [hR]
    have hs' : (s.size : Int) ≤ 9223372036854775807 := by omega
    have HR0 := Lib.hid hR0
    clear hR0 hR
    go_enter Tryz.func20, Tryz.ntmps20
    go_wp2_with fail
    go_loopw [3, 4, 5] (fun tn tr tm wr => ∃ (n : Nat) (r : ByteArray) (more : Bool), tn = .int .i64 n ∧ tr = .string r ∧ tm = .bool more ∧ 2 * n ≤ s.size + 2 ∧ (more = true → 2 * n + r.size ≤ s.size) ∧ R = (if more then scM n r else decide (n ≤ 4)) ∧ Mod (fun _ => False) w wr)
      (fun _ tr tm _ => match tr, tm with | .string r, .bool true => r.size + 1 | _, _ => 0)
    case atStart => exact ⟨0, s, true, rfl, rfl, rfl, by omega, fun _ => by omega, HR0.out.symm, Mod.refl _ _⟩
    case round =>
      obtain ⟨n, r, more, rfl, rfl, rfl, hn, hnr, hRr, hm⟩ := hrel
      cases more with
      | true =>
        have hnr := hnr rfl
        have hRr : R = scM n r := hRr
        have hn' : (n : Int) ≤ 4611686018427387905 := by omega
        have hr' : (r.size : Int) ≤ 9223372036854775807 := by omega
        have hct := cut_at r (by omega) wr
        have hrs := @cut_sum r
        have hcs := cut_size r
        have h1 := @scM_no n r
        have h2 := @scM_more n r
        have h3 := @scM_last n r
        obtain ⟨⟨a, b, c⟩, hC⟩ : ∃ C, cutS r = C := ⟨_, rfl⟩
        rw [hC] at hct hrs hcs h1 h2 h3
        simp only at hct hrs hcs h1 h2 h3
        have hct : Calls Tryz.prog 53 #[.string r, .string ⟨#[47]⟩] wr fun e w' => e = .returned (.tuple #[.string a, .string b, .bool c]) ∧ Mod (fun _ => False) wr w' := hct
        have HRr := Lib.hid hRr
        have Hm := Lib.hid hm
        have Hct := Lib.hid hct
        have HC := Lib.hid hC
        have H1 := Lib.hid h1
        have H2 := Lib.hid h2
        have H3 := Lib.hid h3
        have Hrs := Lib.hid hrs
        clear hRr hm hct hC h1 h2 h3 hrs
        go_wp2_with fail
        refine Hct.out.mono ?_
        rintro e w1 ⟨rfl, hm1⟩
        have Hm1 := Lib.hid (Hm.out.trans hm1 (fun _ _ h => h))
        clear hm1
        go_wp2_with fail
        refine (name_at a (by omega) w1).mono ?_
        rintro e w2 ⟨rfl, hw⟩
        subst hw
        cases hna : isName a with
        | false =>
          have Hna := Lib.hid hna
          clear hna
          go_wp2
          go_ret
          exact ⟨by rw [HRr.out, H1.out Hna.out]; rfl, Hm1.out⟩
        | true =>
          have Hna := Lib.hid hna
          clear hna
          go_wp2_with fail
          go_roundw
          case rel =>
            cases c with
            | true => exact ⟨n + 1, b, true, by go_num, rfl, rfl, by omega, (fun _ => by have := Hrs.out rfl; have := name_pos Hna.out; omega), (by rw [HRr.out, H2.out Hna.out rfl]; rfl), Hm1.out⟩
            | false => exact ⟨n + 1, b, false, by go_num, rfl, rfl, by omega, (fun h => by cases h), (by rw [HRr.out, H3.out Hna.out rfl]; rfl), Hm1.out⟩
          case measure =>
            cases c with
            | true =>
              have := Hrs.out rfl
              show b.size + 1 < r.size + 1
              omega
            | false => show 0 < r.size + 1; omega
      | false =>
        have hRr : R = decide (n ≤ 4) := hRr
        have HRr := Lib.hid hRr
        have Hm := Lib.hid hm
        clear hRr hm
        go_wp2
        go_ret
        refine ⟨?_, Hm.out⟩
        show Ending.returned (.bool (decide ((n : Int) ≤ 4))) = _
        rw [HRr.out]
        congr 2
        exact decide_eq_decide.2 (by omega)
end Go.Proofs.YtaenebdppkjhoaaGreatDoor

namespace Go.Proofs.YtaenebdppkjhoaaGreatDoor
set_option maxRecDepth 20000
open Go.RowKit

section
variable {P : Program} {w : World} {ops : Array Oper} {rest : List Oper} {a : Act} {Q : Exit → Act → World → Prop} {d : Option Tmp} {tp : TypeId} {pos : String} {af : Array Edge}

theorem all_one {cs : List Value} (h : cs.all (·.oneCell') = true) : ∀ u ∈ cs, u.oneCell' = true := fun u hu => List.all_eq_true.1 h u hu

/-- A struct is written into a block that has just been made. -/
theorem wpList_store_lit {cur : Array Value} {t : TypeId} (ty : TypeId) (x y : Operand)
    (h : a.eval x = .pointer (some ⟨w.heap.size, 0, none⟩) ∧ ∃ cs : List Value, a.eval y = .agg cs.toArray ∧ cs.length = cur.size ∧ (P.info? ty).map (·.size) = some cs.length ∧ cs.all (·.oneCell') = true ∧
      wpList P ops Q rest (a.put d undef) (w.alloc (.cells cs.toArray t))) : wpList P ops Q (⟨d, .store ty x y, tp, pos, af, none⟩ :: rest) a (w.alloc (.cells cur t)) := by
  obtain ⟨hx, cs, hy, hl, hi, h1, h⟩ := h
  exact wpList_store_new rfl ty x y rfl hx cur t cs hy hl hi (all_one h1) h

/-- A struct is read. -/
theorem wpList_load_lit (ty : TypeId) (x : Operand)
    (h : ∃ g off, a.eval x = .pointer (some ⟨g, off, none⟩) ∧ ∃ cs : List Value, CellsAt w g off cs ∧ (match P.underlying ty with | some (.struct _) => true | some (.array _ _) => true | _ => false) = true ∧ (P.info? ty).map (·.size) = some cs.length ∧
      wpList P ops Q rest (a.put d (.agg cs.toArray)) w) : wpList P ops Q (⟨d, .load ty x, tp, pos, af, none⟩ :: rest) a w := by
  obtain ⟨g, off, hx, cs, hc, hu, hi, h⟩ := h
  exact wpList_load_cells rfl ty x rfl g off hx cs hc hu hi h

/-- append of a slice that is read to one that is owned. -/
theorem wpList_append_lit {at1 : Array TypeId} (s y : Operand) (t : TypeId)
    (h : at1 = #[t, t] ∧ ∃ (e : TypeId) (sz bytes : Nat), SliceT P t e sz bytes ∧ ∃ (v : Value) (n : Nat) (xs : List Value), a.eval s = v ∧ OwnSl w e sz v n xs ∧ ∃ (x : Value) (m : Nat) (news : List Value), a.eval y = x ∧ RdSl w sz x m news ∧ (∀ u ∈ news, u.oneCell' = true) ∧
      (n + m) * bytes ≤ 140737488355328 ∧ n + m ≤ maxLen ∧ ∀ ad cap w', Appended w e sz v (n + m) (xs ++ news) (.slice ad (n + m) cap) w' → wpList P ops Q rest (a.put d (.slice ad (n + m) cap)) w') :
    wpList P ops Q (⟨d, .call { callee := .builtin .append, args := #[s, y], argTypes := at1 }, tp, pos, af, none⟩ :: rest) a w := by
  obtain ⟨rfl, e, sz, bytes, hT, v, n, xs, hs, hown, x, m, news, hy, hx, h1, hb, hm, hK⟩ := h
  exact wpList_append_sl rfl s y t rfl e sz bytes hT v n xs hs hown x m news hy hx h1 hb hm hK

/-- A struct is written into a whole block that there is. -/
theorem wpList_store_row_lit (ty : TypeId) (x y : Operand)
    (h : ∃ g, a.eval x = .pointer (some ⟨g, 0, none⟩) ∧ ∃ (cur : Array Value) (t : TypeId), w.heap[g]? = some (.cells cur t (0, 0)) ∧ ∃ cs : List Value, a.eval y = .agg cs.toArray ∧ cs.length = cur.size ∧ (P.info? ty).map (·.size) = some cs.length ∧ cs.all (·.oneCell') = true ∧
      ∀ w', w'.heap[g]? = some (.cells cs.toArray t (0, 0)) → Mod (fun k => k = g) w w' → wpList P ops Q rest (a.put d undef) w') : wpList P ops Q (⟨d, .store ty x y, tp, pos, af, none⟩ :: rest) a w := by
  obtain ⟨g, hx, cur, t, hg, cs, hy, hl, hi, h1, h⟩ := h
  exact wpList_store_row rfl ty x y rfl g hx cur t hg cs hy cs.length rfl hl.symm hi h1 h
end
end Go.Proofs.YtaenebdppkjhoaaGreatDoor

namespace Go.Proofs.YtaenebdppkjhoaaGreatDoor
set_option maxRecDepth 20000
open Go.RowKit

/-- Names rise. -/
def rises (l : List Att) : Prop := ∀ (i j : Nat) (x y : Att), i < j → l[i]? = some x → l[j]? = some y → Op.bytesLess x.name.data.toList y.name.data.toList = true
theorem rises.less {l : List Att} (h : rises l) {i j : Nat} {x y : Att} {s : List UInt8} (hij : i < j) (hx : l[i]? = some x) (hy : l[j]? = some y) (hl : Op.bytesLess y.name.data.toList s = true) : Op.bytesLess x.name.data.toList s = true :=
  less_trans _ _ _ (h i j x y hij hx hy) hl
theorem rises.more {l : List Att} (h : rises l) {i j : Nat} {x y : Att} {s : List UInt8} (hij : i < j) (hx : l[i]? = some x) (hy : l[j]? = some y) (hl : Op.bytesLess x.name.data.toList s = false) : Op.bytesLess y.name.data.toList s = false :=
  Bool.eq_false_iff.2 fun hh => by rw [h.less hij hx hy hh] at hl; cases hl
/-- How many stand ahead of a name. -/
def pos (l : List Att) (s : ByteArray) : Nat := (l.takeWhile fun a => Op.bytesLess a.name.data.toList s.data.toList).length
def there (l : List Att) (s : ByteArray) : Bool := match l[pos l s]? with | some a => a.name.data.toList == s.data.toList | none => false

end Go.Proofs.YtaenebdppkjhoaaGreatDoor
