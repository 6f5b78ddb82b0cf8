/-
  Package scope: Right.
  Laws for single operations that name the operation as it stands: an operation of another kind is refused at once.
  Package event: an attribute's place (slices.BinarySearchFunc), of attributes that rise by their names.
  Conditions in memory, and whether one may be.
-/
import Derived.Test.YtloplmaekonenaaGreatDoorZi6
import Derived.Test.YtloplmaekonenaaGreatDoorZi4
import Derived.Test.YtloplmaekonenaaGreatDoorZi2
namespace Go.Proofs.YtloplmaekonenaaGreatDoor
set_option maxRecDepth 20000
open Go.RowKit
def scN : Nat → ByteArray → Option Nat
  | 0, _ => none
  | f + 1, s => if isName (cutS s).1 = true then (if (cutS s).2.2 = true then (scN f (cutS s).2.1).map (· + 1) else some 1) else none
theorem scN_succ (f : Nat) (s : ByteArray) : scN (f + 1) s = if isName (cutS s).1 = true then (if (cutS s).2.2 = true then (scN f (cutS s).2.1).map (· + 1) else some 1) else none := rfl
theorem scN_fuel : ∀ (f g : Nat) (s : ByteArray), s.size < f → s.size < g → scN f s = scN g s
  | 0, _, s, h, _ => by omega
  | _ + 1, 0, s, _, h => by omega
  | f + 1, g + 1, s, h1, h2 => by
    rw [scN_succ, scN_succ]
    split
    · split
      · rename_i h
        have := cut_rest h
        rw [scN_fuel f g (cutS s).2.1 (by omega) (by omega)]
      · rfl
    · rfl
def scM (n : Nat) (s : ByteArray) : Bool := match scN (s.size + 1) s with
  | some k => decide (n + k ≤ 4)
  | none => false
def scRight (s : ByteArray) : Bool := s.toList.isEmpty || scM 0 s
theorem name_pos {s : ByteArray} (h : isName s = true) : 0 < s.size := by
  unfold isName at h
  simp only [Bool.and_eq_true, decide_eq_true_eq] at h
  omega
theorem scM_no {n : Nat} {s : ByteArray} (h : isName (cutS s).1 = false) : scM n s = false := by
  unfold scM
  rw [scN_succ, if_neg (by rw [h]; decide)]
theorem scM_more {n : Nat} {s : ByteArray} (h : isName (cutS s).1 = true) (hm : (cutS s).2.2 = true) : scM n s = scM (n + 1) (cutS s).2.1 := by
  have := cut_rest hm
  unfold scM
  rw [scN_succ, if_pos h, if_pos hm, scN_fuel s.size ((cutS s).2.1.size + 1) _ (by omega) (by omega)]
  cases scN ((cutS s).2.1.size + 1) (cutS s).2.1 with
  | none => rfl
  | some k => 
    show decide (n + (k + 1) ≤ 4) = decide (n + 1 + k ≤ 4)
    congr 1
    rw [Nat.add_assoc, Nat.add_comm 1 k]
theorem scM_last {n : Nat} {s : ByteArray} (h : isName (cutS s).1 = true) (hm : (cutS s).2.2 = false) : scM n s = decide (n + 1 ≤ 4) := by
  unfold scM
  rw [scN_succ, if_pos h, if_neg (by rw [hm]; decide)]
set_option maxHeartbeats 1000000 in
theorem scope_right (s : ByteArray) (hs : s.size ≤ 9223372036854775807) (w : World) : Calls Tryz.prog 43 #[.string s] w fun e w' => e = .returned (.bool (scRight s)) ∧ Mod (fun _ => False) w w' := by
  cases he : s.toList.isEmpty with
  | true =>
    have h2 : scRight s = true := by unfold scRight; rw [he]; rfl
    rw [h2]
    clear h2 hs
    go_enter Tryz.func43, Tryz.ntmps43
    go_wp2
    go_ret
    exact ⟨rfl, Mod.refl _ _⟩
  | false =>
    obtain ⟨R, hR⟩ : ∃ R, scRight s = R := ⟨_, rfl⟩
    have hR0 : scM 0 s = R := by rw [← hR]; unfold scRight; rw [he]; rfl
    rw [hR]
    have hs' : (s.size : Int) ≤ 9223372036854775807 := by omega
    have HR0 := Lib.hid hR0
    clear hR0 hR
    go_enter Tryz.func43, Tryz.ntmps43
    go_wp2_with fail
    go_loopw [3, 4, 5] (fun tn tr tm wr => ∃ (n : Nat) (r : ByteArray) (more : Bool), tn = .int .i64 n ∧ tr = .string r ∧ tm = .bool more ∧ 2 * n ≤ s.size + 2 ∧ (more = true → 2 * n + r.size ≤ s.size) ∧ R = (if more then scM n r else decide (n ≤ 4)) ∧ Mod (fun _ => False) w wr)
      (fun _ tr tm _ => match tr, tm with | .string r, .bool true => r.size + 1 | _, _ => 0)
    case atStart => exact ⟨0, s, true, rfl, rfl, rfl, by omega, fun _ => by omega, HR0.out.symm, Mod.refl _ _⟩
    case round =>
      obtain ⟨n, r, more, rfl, rfl, rfl, hn, hnr, hRr, hm⟩ := hrel
      cases more with
      | true =>
        have hnr := hnr rfl
        have hRr : R = scM n r := hRr
        have hn' : (n : Int) ≤ 4611686018427387905 := by omega
        have hr' : (r.size : Int) ≤ 9223372036854775807 := by omega
        have hct := cut_at r (by omega) wr
        have hrs := @cut_sum r
        have hcs := cut_size r
        have h1 := @scM_no n r
        have h2 := @scM_more n r
        have h3 := @scM_last n r
        obtain ⟨⟨a, b, c⟩, hC⟩ : ∃ C, cutS r = C := ⟨_, rfl⟩
        rw [hC] at hct hrs hcs h1 h2 h3
        simp only at hct hrs hcs h1 h2 h3
        have hct : Calls Tryz.prog 75 #[.string r, .string ⟨#[47]⟩] wr fun e w' => e = .returned (.tuple #[.string a, .string b, .bool c]) ∧ Mod (fun _ => False) wr w' := hct
        have HRr := Lib.hid hRr
        have Hm := Lib.hid hm
        have Hct := Lib.hid hct
        have HC := Lib.hid hC
        have H1 := Lib.hid h1
        have H2 := Lib.hid h2
        have H3 := Lib.hid h3
        have Hrs := Lib.hid hrs
        clear hRr hm hct hC h1 h2 h3 hrs
        go_wp2_with fail
        refine Hct.out.mono ?_
        rintro e w1 ⟨rfl, hm1⟩
        have Hm1 := Lib.hid (Hm.out.trans hm1 (fun _ _ h => h))
        clear hm1
        go_wp2_with fail
        refine (name_at a (by omega) w1).mono ?_
        rintro e w2 ⟨rfl, hw⟩
        subst hw
        cases hna : isName a with
        | false =>
          have Hna := Lib.hid hna
          clear hna
          go_wp2
          go_ret
          exact ⟨by rw [HRr.out, H1.out Hna.out]; rfl, Hm1.out⟩
        | true =>
          have Hna := Lib.hid hna
          clear hna
          go_wp2_with fail
          go_roundw
          case rel =>
            cases c with
            | true => exact ⟨n + 1, b, true, by go_num, rfl, rfl, by omega, (fun _ => by have := Hrs.out rfl; have := name_pos Hna.out; omega), (by rw [HRr.out, H2.out Hna.out rfl]; rfl), Hm1.out⟩
            | false => exact ⟨n + 1, b, false, by go_num, rfl, rfl, by omega, (fun h => by cases h), (by rw [HRr.out, H3.out Hna.out rfl]; rfl), Hm1.out⟩
          case measure =>
            cases c with
            | true =>
              have := Hrs.out rfl
              show b.size + 1 < r.size + 1
              omega
            | false => show 0 < r.size + 1; omega
      | false =>
        have hRr : R = decide (n ≤ 4) := hRr
        have HRr := Lib.hid hRr
        have Hm := Lib.hid hm
        clear hRr hm
        go_wp2
        go_ret
        refine ⟨?_, Hm.out⟩
        show Ending.returned (.bool (decide ((n : Int) ≤ 4))) = _
        rw [HRr.out]
        congr 2
        exact decide_eq_decide.2 (by omega)
end Go.Proofs.YtloplmaekonenaaGreatDoor
namespace Go.Proofs.YtloplmaekonenaaGreatDoor
set_option maxRecDepth 20000
open Go.RowKit
section
variable {P : Program} {w : World} {ops : Array Oper} {rest : List Oper} {a : Act} {Q : Exit → Act → World → Prop} {d : Option Tmp} {tp : TypeId} {pos : String} {af : Array Edge}
theorem all_one {cs : List Value} (h : cs.all (·.oneCell') = true) : ∀ u ∈ cs, u.oneCell' = true := fun u hu => List.all_eq_true.1 h u hu
theorem wpList_store_lit {cur : Array Value} {t : TypeId} (ty : TypeId) (x y : Operand)
    (h : a.eval x = .pointer (some ⟨w.heap.size, 0, none⟩) ∧ ∃ cs : List Value, a.eval y = .agg cs.toArray ∧ cs.length = cur.size ∧ (P.info? ty).map (·.size) = some cs.length ∧ cs.all (·.oneCell') = true ∧
      wpList P ops Q rest (a.put d undef) (w.alloc (.cells cs.toArray t))) : wpList P ops Q (⟨d, .store ty x y, tp, pos, af, none⟩ :: rest) a (w.alloc (.cells cur t)) := by
  obtain ⟨hx, cs, hy, hl, hi, h1, h⟩ := h
  exact wpList_store_new rfl ty x y rfl hx cur t cs hy hl hi (all_one h1) h
theorem wpList_load_lit (ty : TypeId) (x : Operand)
    (h : ∃ g off, a.eval x = .pointer (some ⟨g, off, none⟩) ∧ ∃ cs : List Value, CellsAt w g off cs ∧ (match P.underlying ty with | some (.struct _) => true | some (.array _ _) => true | _ => false) = true ∧ (P.info? ty).map (·.size) = some cs.length ∧
      wpList P ops Q rest (a.put d (.agg cs.toArray)) w) : wpList P ops Q (⟨d, .load ty x, tp, pos, af, none⟩ :: rest) a w := by
  obtain ⟨g, off, hx, cs, hc, hu, hi, h⟩ := h
  exact wpList_load_cells rfl ty x rfl g off hx cs hc hu hi h
theorem wpList_append_lit {at1 : Array TypeId} (s y : Operand) (t : TypeId)
    (h : at1 = #[t, t] ∧ ∃ (e : TypeId) (sz bytes : Nat), SliceT P t e sz bytes ∧ ∃ (v : Value) (n : Nat) (xs : List Value), a.eval s = v ∧ OwnSl w e sz v n xs ∧ ∃ (x : Value) (m : Nat) (news : List Value), a.eval y = x ∧ RdSl w sz x m news ∧ (∀ u ∈ news, u.oneCell' = true) ∧
      (n + m) * bytes ≤ 140737488355328 ∧ n + m ≤ maxLen ∧ ∀ ad cap w', Appended w e sz v (n + m) (xs ++ news) (.slice ad (n + m) cap) w' → wpList P ops Q rest (a.put d (.slice ad (n + m) cap)) w') :
    wpList P ops Q (⟨d, .call { callee := .builtin .append, args := #[s, y], argTypes := at1 }, tp, pos, af, none⟩ :: rest) a w := by
  obtain ⟨rfl, e, sz, bytes, hT, v, n, xs, hs, hown, x, m, news, hy, hx, h1, hb, hm, hK⟩ := h
  exact wpList_append_sl rfl s y t rfl e sz bytes hT v n xs hs hown x m news hy hx h1 hb hm hK
theorem wpList_store_row_lit (ty : TypeId) (x y : Operand)
    (h : ∃ g, a.eval x = .pointer (some ⟨g, 0, none⟩) ∧ ∃ (cur : Array Value) (t : TypeId), w.heap[g]? = some (.cells cur t (0, 0)) ∧ ∃ cs : List Value, a.eval y = .agg cs.toArray ∧ cs.length = cur.size ∧ (P.info? ty).map (·.size) = some cs.length ∧ cs.all (·.oneCell') = true ∧
      ∀ w', w'.heap[g]? = some (.cells cs.toArray t (0, 0)) → Mod (fun k => k = g) w w' → wpList P ops Q rest (a.put d undef) w') : wpList P ops Q (⟨d, .store ty x y, tp, pos, af, none⟩ :: rest) a w := by
  obtain ⟨g, hx, cur, t, hg, cs, hy, hl, hi, h1, h⟩ := h
  exact wpList_store_row rfl ty x y rfl g hx cur t hg cs hy cs.length rfl hl.symm hi h1 h
end
end Go.Proofs.YtloplmaekonenaaGreatDoor
namespace Go.Proofs.YtloplmaekonenaaGreatDoor
set_option maxRecDepth 20000
open Go.RowKit
def rises (l : List Att) : Prop := ∀ (i j : Nat) (x y : Att), i < j → l[i]? = some x → l[j]? = some y → Op.bytesLess x.name.data.toList y.name.data.toList = true
theorem rises.less {l : List Att} (h : rises l) {i j : Nat} {x y : Att} {s : List UInt8} (hij : i < j) (hx : l[i]? = some x) (hy : l[j]? = some y) (hl : Op.bytesLess y.name.data.toList s = true) : Op.bytesLess x.name.data.toList s = true :=
  less_trans _ _ _ (h i j x y hij hx hy) hl
theorem rises.more {l : List Att} (h : rises l) {i j : Nat} {x y : Att} {s : List UInt8} (hij : i < j) (hx : l[i]? = some x) (hy : l[j]? = some y) (hl : Op.bytesLess x.name.data.toList s = false) : Op.bytesLess y.name.data.toList s = false :=
  Bool.eq_false_iff.2 fun hh => by rw [h.less hij hx hy hh] at hl; cases hl
def pos (l : List Att) (s : ByteArray) : Nat := (l.takeWhile fun a => Op.bytesLess a.name.data.toList s.data.toList).length
def there (l : List Att) (s : ByteArray) : Bool := match l[pos l s]? with | some a => a.name.data.toList == s.data.toList | none => false
theorem pos_is : ∀ (l : List Att) (s : ByteArray) (i : Nat), i ≤ l.length → (∀ k x, k < i → l[k]? = some x → Op.bytesLess x.name.data.toList s.data.toList = true) → (∀ x, l[i]? = some x → Op.bytesLess x.name.data.toList s.data.toList = false) → pos l s = i
  | [], s, i, hi, _, _ => by
    have : i = 0 := by simpa using hi
    subst this; rfl
  | a :: l, s, 0, _, _, h => by
    have := h a rfl
    unfold pos
    rw [List.takeWhile_cons, this]
    rfl
  | a :: l, s, i + 1, hi, h1, h2 => by
    have ha := h1 0 a (by omega) rfl
    have ih := pos_is l s i (by simpa using hi) (fun k x hk hx => h1 (k + 1) x (by omega) (by simpa using hx)) (fun x hx => h2 x (by simpa using hx))
    unfold pos at ih ⊢
    rw [List.takeWhile_cons, ha]
    simp only [if_true, List.length_cons, ih]
theorem pos_le (l : List Att) (s : ByteArray) : pos l s ≤ l.length := by
  unfold pos
  exact (List.takeWhile_prefix _).length_le
theorem find1 (x : Att) (s : ByteArray) (w : World) : Calls Tryz.prog 120 #[.agg x.cells.toArray, .string s] w fun e w' => e = .returned (.int .i64 (Lib.compareBytes x.name.data.toList s.data.toList)) ∧ Mod (fun _ => False) w w' := by
  obtain ⟨nm, v⟩ := x
  obtain ⟨wa, hwa⟩ : ∃ wa : World, w.alloc (.cells (⟨nm, v⟩ : Att).cells.toArray 90) = wa := ⟨_, rfl⟩
  have hmwa : Mod (fun _ => False) w wa := hwa ▸ (Mod.refl (fun _ => False) w).alloc _
  have hgwa := heap_alloc_new w (.cells (⟨nm, v⟩ : Att).cells.toArray 90)
  rw [hwa] at hgwa
  have hzwa : wa.heap.size = w.heap.size + 1 := by rw [← hwa]; simp
  have Hc := Lib.hid (cmp_at nm s wa)
  have c0 : wa.cell? ⟨w.heap.size, 0, none⟩ = some (.string nm) := cell_of hgwa rfl
  have Hwa := Lib.hid hwa
  have Hmwa := Lib.hid hmwa
  have Hgwa := Lib.hid hgwa
  have Hzwa := Lib.hid hzwa
  clear hwa hmwa hgwa hzwa
  go_enter Tryz.func120, Tryz.ntmps120
  go_wp2_with (first | (rw [show w.alloc _ = wa from Hwa.out]) | fail)
  refine Hc.out.mono ?_
  rintro e w' ⟨rfl, rfl⟩
  go_wp2
  go_ret
  exact ⟨rfl, Hmwa.out⟩
set_option maxRecDepth 20000 in
set_option maxHeartbeats 4000000 in
theorem bsearch_at (w : World) (a : Option Addr) (cap : Nat) (l : List Att) (hv : RdSl w 6 (.slice a l.length cap) l.length (atts l)) (hll : l.length ≤ 1000000) (hr : rises l) (s : ByteArray) :
    Calls Tryz.prog 119 #[.slice a l.length cap, .string s, .func (.func 120) #[] #[]] w fun e w' =>
      e = .returned (.tuple #[.int .i64 (pos l s), .bool (there l s)]) ∧ Mod (fun _ => False) w w' := by
  have hll' : (l.length : Int) ≤ 1000000 := by omega
  have hcf : ∀ args w, (callFunc 120 args).run Tryz.prog w = .ok (.enter 120 args) w := fun args w => by simp [go_sem]
  obtain ⟨-, a', cap', h1, hcap, hnil, hrd⟩ := hv
  cases h1
  have hcap' : (l.length : Int) ≤ cap := by omega
  have Hr := Lib.hid hr
  have Hrd := Lib.hid hrd
  have Hcf := Lib.hid hcf
  have Hnil := Lib.hid hnil
  clear hr hrd hcf hnil
  go_enter Tryz.func119, Tryz.ntmps119
  go_wp2_with fail
  go_loopw [9, 10] (fun ti tj wr => ∃ i j : Nat, ti = .int .i64 i ∧ tj = .int .i64 j ∧ i ≤ j ∧ j ≤ l.length ∧ Mod (fun _ => False) w wr ∧ (∀ k x, k < i → l[k]? = some x → Op.bytesLess x.name.data.toList s.data.toList = true) ∧
    (∀ k x, j ≤ k → l[k]? = some x → Op.bytesLess x.name.data.toList s.data.toList = false)) (fun ti tj _ => (intOf tj).toNat - (intOf ti).toNat)
  case atStart => exact ⟨0, l.length, rfl, rfl, Nat.zero_le _, Nat.le_refl _, Mod.refl _ _, fun k x hk => by omega, fun k x hk hx => by
    have := (List.getElem?_eq_some_iff.1 hx).1; omega⟩
  case round =>
    obtain ⟨i, j, rfl, rfl, hij, hjl, hm, hlo, hhi⟩ := hrel
    have Hm := Lib.hid hm
    have Hlo := Lib.hid hlo
    have Hhi := Lib.hid hhi
    clear hm hlo hhi
    by_cases hlt : i < j
    · have hlt' : (i : Int) < j := by omega
      have hj' : (j : Int) ≤ 1000000 := by omega
      obtain ⟨h, hh, hih, hhj⟩ : ∃ h : Nat, ((i : Int) + (j : Int)) / 2 = (h : Int) ∧ i ≤ h ∧ h < j := ⟨(i + j) / 2, by omega, by omega, by omega⟩
      have hhl : (h : Int) < l.length := by omega
      obtain ⟨x, hx⟩ : ∃ x, l[h]? = some x := ⟨_, List.getElem?_eq_getElem (by omega)⟩
      obtain ⟨b, rfl⟩ : ∃ b, a = some b := by
        cases a with
        | none => exact absurd (Hnil.out rfl) (by omega)
        | some b => exact ⟨b, rfl⟩
      obtain ⟨g, off, rfl, hc⟩ := Hrd.out b rfl (by omega)
      have hf : CellsAt wr g (off + h * 6) x.cells := fun q u hu => by
        have := Hm.out.cell (hc (6 * h + q) u (atts_at l hx hu)) (fun h => h)
        rw [show off + h * 6 + q = off + (6 * h + q) by omega]
        exact this
      have c0 : wr.cell? ⟨g, off + h * 6, none⟩ = some (.string x.name) := hf 0 _ rfl
      have c1 : wr.cell? ⟨g, off + h * 6 + 1, none⟩ = some (.int .i64 x.v.kind) := hf 1 _ rfl
      have c2 : wr.cell? ⟨g, off + h * 6 + 2, none⟩ = some (.int .i64 x.v.int) := hf 2 _ rfl
      have c3 : wr.cell? ⟨g, off + h * 6 + 3, none⟩ = some (.float .f64 x.v.num) := hf 3 _ rfl
      have c4 : wr.cell? ⟨g, off + h * 6 + 4, none⟩ = some (.string x.v.text) := hf 4 _ rfl
      have c5 : wr.cell? ⟨g, off + h * 6 + 5, none⟩ = some (.bool x.v.yes) := hf 5 _ rfl
      have hf1 := find1 x s wr
      have hcl := cmp_less x.name.data.toList s.data.toList
      generalize Lib.compareBytes x.name.data.toList s.data.toList = C at hf1 hcl
      have Hx := Lib.hid hx
      have Hc := Lib.hid hc
      have Hf := Lib.hid hf
      have Hf1 := Lib.hid hf1
      have Hcl := Lib.hid hcl
      clear hx hc hf hf1 hcl
      have hcall := Hcf.out
      go_wp2_with fail
      refine Hf1.out.mono ?_
      rintro e w2 ⟨rfl, hm2⟩
      have hm3 := Hm.out.trans hm2 (fun _ _ h => h)
      have Hm3 := Lib.hid hm3
      clear hm3 hm2 hcall Hf1 c0 c1 c2 c3 c4 c5
      by_cases hC : C < 0
      · have hl : Op.bytesLess x.name.data.toList s.data.toList = true := Hcl.out.1 hC
        have Hl := Lib.hid hl
        clear hl
        go_wp2_with fail
        go_roundw
        case rel =>
          refine ⟨h + 1, j, by go_num, rfl, by omega, hjl, Hm3.out, fun k y hk hy => ?_, Hhi.out⟩
          rcases Nat.lt_succ_iff_lt_or_eq.1 hk with hk | rfl
          · exact Hr.out.less hk hy Hx.out Hl.out
          · rw [Hx.out] at hy; cases hy; exact Hl.out
        case measure => simp [intOf]; omega
      · have hl : Op.bytesLess x.name.data.toList s.data.toList = false := Bool.eq_false_iff.2 fun h => hC (Hcl.out.2 h)
        have Hl := Lib.hid hl
        clear hl
        go_wp2_with fail
        go_roundw
        case rel =>
          refine ⟨i, h, rfl, rfl, hih, by omega, Hm3.out, Hlo.out, fun k y hk hy => ?_⟩
          rcases Nat.lt_or_eq_of_le hk with hk | rfl
          · exact Hr.out.more hk Hx.out hy Hl.out
          · rw [Hx.out] at hy; cases hy; exact Hl.out
        case measure => simp [intOf]; omega
    · obtain rfl : i = j := by omega
      have hpos := pos_is l s i hjl Hlo.out (fun x hx => Hhi.out i x (Nat.le_refl _) hx)
      by_cases hin : i < l.length
      · have hin' : (i : Int) < l.length := by omega
        obtain ⟨x, hx⟩ : ∃ x, l[i]? = some x := ⟨_, List.getElem?_eq_getElem hin⟩
        obtain ⟨b, rfl⟩ : ∃ b, a = some b := by
          cases a with
          | none => exact absurd (Hnil.out rfl) (by omega)
          | some b => exact ⟨b, rfl⟩
        obtain ⟨g, off, rfl, hc⟩ := Hrd.out b rfl (by omega)
        have hf : CellsAt wr g (off + i * 6) x.cells := fun q u hu => by
          have := Hm.out.cell (hc (6 * i + q) u (atts_at l hx hu)) (fun h => h)
          rw [show off + i * 6 + q = off + (6 * i + q) by omega]
          exact this
        have c0 : wr.cell? ⟨g, off + i * 6, none⟩ = some (.string x.name) := hf 0 _ rfl
        have c1 : wr.cell? ⟨g, off + i * 6 + 1, none⟩ = some (.int .i64 x.v.kind) := hf 1 _ rfl
        have c2 : wr.cell? ⟨g, off + i * 6 + 2, none⟩ = some (.int .i64 x.v.int) := hf 2 _ rfl
        have c3 : wr.cell? ⟨g, off + i * 6 + 3, none⟩ = some (.float .f64 x.v.num) := hf 3 _ rfl
        have c4 : wr.cell? ⟨g, off + i * 6 + 4, none⟩ = some (.string x.v.text) := hf 4 _ rfl
        have c5 : wr.cell? ⟨g, off + i * 6 + 5, none⟩ = some (.bool x.v.yes) := hf 5 _ rfl
        have hf1 := find1 x s wr
        have hth : there l s = (Lib.compareBytes x.name.data.toList s.data.toList == 0) := by
          unfold there
          rw [hpos, hx]
          have := cmp_zero x.name.data.toList s.data.toList
          rw [Bool.eq_iff_iff, beq_iff_eq, beq_iff_eq, this]
        generalize Lib.compareBytes x.name.data.toList s.data.toList = C at hf1 hth
        have Hx := Lib.hid hx
        have Hc := Lib.hid hc
        have Hf := Lib.hid hf
        have Hf1 := Lib.hid hf1
        have Hpos := Lib.hid hpos
        have Hth := Lib.hid hth
        clear hx hc hf hf1 hpos hth
        have hcall := Hcf.out
        go_wp2_with fail
        refine Hf1.out.mono ?_
        rintro e w2 ⟨rfl, hm2⟩
        have hm3 := Hm.out.trans hm2 (fun _ _ h => h)
        have Hm3 := Lib.hid hm3
        clear hm3 hm2 hcall Hf1 c0 c1 c2 c3 c4 c5
        go_wp2
        go_ret2
        exact ⟨by rw [Hpos.out, Hth.out]; rfl, Hm3.out⟩
      · have hin' : (l.length : Int) ≤ i := by omega
        have hth : there l s = false := by
          unfold there
          rw [hpos, List.getElem?_eq_none (by omega)]
        have Hpos := Lib.hid hpos
        have Hth := Lib.hid hth
        clear hpos hth
        go_wp2
        go_ret2
        exact ⟨by rw [Hpos.out, Hth.out]; rfl, Hm.out⟩
set_option maxHeartbeats 1000000 in
theorem find_at (w : World) (sc : ByteArray) (av : Value) (l : List Att) (hv : RdSl w 6 av l.length (atts l)) (hll : l.length ≤ 1000000) (hr : rises l) (s : ByteArray) :
    Calls Tryz.prog 78 #[.agg #[.string sc, av], .string s] w fun e w' => e = .returned (.tuple #[.int .i64 (pos l s), .bool (there l s)]) ∧ Mod (fun _ => False) w w' := by
  obtain ⟨a, cap, rfl⟩ : ∃ a c, av = .slice a l.length c := by obtain ⟨-, a, c, h, -⟩ := hv; exact ⟨a, c, h⟩
  obtain ⟨wa, hwa⟩ : ∃ wa : World, w.alloc (.cells #[.string sc, .slice a l.length cap] 32) = wa := ⟨_, rfl⟩
  have hmwa : Mod (fun _ => False) w wa := hwa ▸ (Mod.refl (fun _ => False) w).alloc _
  have hgwa := heap_alloc_new w (.cells #[.string sc, .slice a l.length cap] 32)
  rw [hwa] at hgwa
  have hzwa : wa.heap.size = w.heap.size + 1 := by rw [← hwa]; simp
  have c0 : wa.cell? ⟨w.heap.size, 1, none⟩ = some (.slice a l.length cap) := cell_of hgwa rfl
  have Hb := Lib.hid (bsearch_at wa a cap l (hv.mod hmwa (fun _ _ h => h)) hll hr s)
  have Hwa := Lib.hid hwa
  have Hmwa := Lib.hid hmwa
  have Hgwa := Lib.hid hgwa
  have Hzwa := Lib.hid hzwa
  clear hwa hmwa hgwa hzwa hv hr
  go_enter Tryz.func78, Tryz.ntmps78
  go_wp2_with (first | (rw [show w.alloc _ = wa from Hwa.out]) | fail)
  refine Hb.out.mono ?_
  rintro e w' ⟨rfl, hm⟩
  have Hm := Lib.hid hm
  clear hm
  go_wp2
  go_ret2
  exact ⟨rfl, Hmwa.out.trans Hm.out (fun _ _ h => h)⟩
end Go.Proofs.YtloplmaekonenaaGreatDoor
namespace Go.Proofs.YtloplmaekonenaaGreatDoor
set_option maxRecDepth 20000
open Go.RowKit
structure Cnd where
  name : ByteArray
  op : Int
  v : V
def Cnd.cells (a : Cnd) : List Value := .string a.name :: .int .i64 a.op :: a.v.cells
theorem Cnd.cells_length (a : Cnd) : a.cells.length = 7 := rfl
def cnds (l : List Cnd) : List Value := l.flatMap Cnd.cells
theorem cnds_at (l : List Cnd) {k j : Nat} {a : Cnd} {u : Value} (h : l[k]? = some a) (hj : a.cells[j]? = some u) : (cnds l)[7 * k + j]? = some u := by
  induction l generalizing k with
  | nil => simp at h
  | cons b l ih =>
    unfold cnds at ih ⊢
    rw [List.flatMap_cons]
    cases k with
    | zero =>
      simp only [List.getElem?_cons_zero, Option.some.injEq] at h
      subst h
      have := (List.getElem?_eq_some_iff.1 hj).1
      rw [List.getElem?_append_left (by omega), Nat.mul_zero, Nat.zero_add, hj]
    | succ k =>
      rw [List.getElem?_cons_succ] at h
      rw [List.getElem?_append_right (by rw [Cnd.cells_length]; omega), Cnd.cells_length, show 7 * (k + 1) + j - 7 = 7 * k + j by omega]
      exact ih h
theorem cells_from2 {w : World} {g : Nat} {x : Cnd} {t : TypeId} (h : w.heap[g]? = some (.cells x.cells.toArray t (0, 0))) : CellsAt w g 2 x.v.cells := fun j u hu => by
  have := CellsAt.row h (j + 2) u (by simpa [Cnd.cells] using hu)
  rw [show 2 + j = 0 + (j + 2) by omega]
  exact this
theorem cnds_append (l m : List Cnd) : cnds (l ++ m) = cnds l ++ cnds m := by unfold cnds; simp
theorem cnd_size : (Tryz.prog.info? 81).map (·.size) = some 7 := by kernel_rfl
theorem rd_cnd {w : World} {a : Option Addr} {cap : Nat} {l : List Cnd} {j : Nat} {x : Cnd} (h : RdSl w 7 (.slice a l.length cap) l.length (cnds l)) (hx : l[j]? = some x) : ∃ g off, a = some ⟨g, off, none⟩ ∧ CellsAt w g (off + j * 7) x.cells := by
  obtain ⟨-, a', c', h1, -, h3, h4⟩ := h
  cases h1
  cases a with
  | none => have := (List.getElem?_eq_some_iff.1 hx).1; exact absurd (h3 rfl) (by omega)
  | some b =>
    obtain ⟨g', off', h5, h6⟩ := h4 _ rfl (by have := (List.getElem?_eq_some_iff.1 hx).1; omega)
    refine ⟨g', off', by rw [h5], fun i u hu => ?_⟩
    have := h6 (7 * j + i) u (cnds_at _ hx hu)
    rw [show off' + j * 7 + i = off' + (7 * j + i) by omega]
    exact this
def Cnd.rightB (c : Cnd) : Bool := isName c.name && (decide (0 ≤ c.op) && (decide (c.op ≤ 7) && c.v.right))
set_option maxHeartbeats 1000000 in
theorem cond_right (c : Cnd) (hn : c.name.size ≤ 9223372036854775807) (w : World) : Calls Tryz.prog 52 #[.agg c.cells.toArray] w fun e w' => e = .returned (.bool c.rightB) ∧ Mod (fun _ => False) w w' := by
  obtain ⟨wa, hwa⟩ : ∃ wa : World, w.alloc (.cells c.cells.toArray 81) = wa := ⟨_, rfl⟩
  have hmwa : Mod (fun _ => False) w wa := hwa ▸ (Mod.refl (fun _ => False) w).alloc _
  have hgwa := heap_alloc_new w (.cells c.cells.toArray 81)
  rw [hwa] at hgwa
  have hzwa : wa.heap.size = w.heap.size + 1 := by rw [← hwa]; simp
  have c0 : wa.cell? ⟨w.heap.size, 0, none⟩ = some (.string c.name) := cell_of hgwa rfl
  have c1 : wa.cell? ⟨w.heap.size, 1, none⟩ = some (.int .i64 c.op) := cell_of hgwa rfl
  have c2 : wa.cell? ⟨w.heap.size, 2, none⟩ = some (.int .i64 c.v.kind) := cell_of hgwa rfl
  have c3 : wa.cell? ⟨w.heap.size, 3, none⟩ = some (.int .i64 c.v.int) := cell_of hgwa rfl
  have c4 : wa.cell? ⟨w.heap.size, 4, none⟩ = some (.float .f64 c.v.num) := cell_of hgwa rfl
  have c5 : wa.cell? ⟨w.heap.size, 5, none⟩ = some (.string c.v.text) := cell_of hgwa rfl
  have c6 : wa.cell? ⟨w.heap.size, 6, none⟩ = some (.bool c.v.yes) := cell_of hgwa rfl
  have hnm := name_at c.name (by omega) wa
  have Hnm := Lib.hid hnm
  have Hwa := Lib.hid hwa
  have Hmwa := Lib.hid hmwa
  clear hnm hwa hmwa hgwa hzwa hn
  cases h1 : isName c.name with
  | false =>
    rw [show c.rightB = false by unfold Cnd.rightB; rw [h1]; rfl]
    rw [h1] at Hnm
    clear h1
    go_enter Tryz.func52, Tryz.ntmps52
    go_wp2_with (first | (rw [show w.alloc _ = wa from Hwa.out]) | fail)
    refine Hnm.out.mono ?_
    rintro e w' ⟨rfl, rfl⟩
    go_wp2
    go_ret
    exact ⟨rfl, Hmwa.out⟩
  | true =>
    rw [show c.rightB = (decide (0 ≤ c.op) && (decide (c.op ≤ 7) && c.v.right)) by unfold Cnd.rightB; rw [h1]; rfl]
    rw [h1] at Hnm
    clear h1
    by_cases h2 : 0 ≤ c.op
    rotate_left
    · have h2' : c.op < 0 := by omega
      rw [show (decide (0 ≤ c.op) && (decide (c.op ≤ 7) && c.v.right)) = false by rw [decide_eq_false h2, Bool.false_and]]
      clear h2
      go_enter Tryz.func52, Tryz.ntmps52
      go_wp2_with (first | (rw [show w.alloc _ = wa from Hwa.out]) | fail)
      refine Hnm.out.mono ?_
      rintro e w' ⟨rfl, rfl⟩
      go_wp2
      go_ret
      exact ⟨rfl, Hmwa.out⟩
    by_cases h3 : c.op ≤ 7
    rotate_left
    · have h3' : 7 < c.op := by omega
      rw [show (decide (0 ≤ c.op) && (decide (c.op ≤ 7) && c.v.right)) = false by rw [decide_eq_false h3, Bool.false_and, Bool.and_false]]
      clear h3
      go_enter Tryz.func52, Tryz.ntmps52
      go_wp2_with (first | (rw [show w.alloc _ = wa from Hwa.out]) | fail)
      refine Hnm.out.mono ?_
      rintro e w' ⟨rfl, rfl⟩
      go_wp2
      go_ret
      exact ⟨rfl, Hmwa.out⟩
    rw [show (decide (0 ≤ c.op) && (decide (c.op ≤ 7) && c.v.right)) = c.v.right by rw [decide_eq_true h2, decide_eq_true h3, Bool.true_and, Bool.true_and]]
    have hvr := value_right c.v wa
    have Hvr := Lib.hid hvr
    clear hvr
    go_enter Tryz.func52, Tryz.ntmps52
    go_wp2_with (first | (rw [show w.alloc _ = wa from Hwa.out]) | fail)
    refine Hnm.out.mono ?_
    rintro e w' ⟨rfl, rfl⟩
    go_wp2_with fail
    refine Hvr.out.mono ?_
    rintro e w2 ⟨rfl, hm2⟩
    have Hm2 := Lib.hid (Hmwa.out.trans hm2 (fun _ _ h => h))
    clear hm2
    go_wp2
    go_ret
    exact ⟨rfl, Hm2.out⟩
def filRight (sc : ByteArray) (l : List Cnd) : Bool := l.all Cnd.rightB && (scRight sc && decide (l.length ≤ 6))
set_option maxHeartbeats 2000000 in
theorem filter_right (w : World) (sc : ByteArray) (av : Value) (l : List Cnd) (hv : RdSl w 7 av l.length (cnds l)) (hll : l.length ≤ 9223372036854775807) (hsc : sc.size ≤ 9223372036854775807) (hn : ∀ c ∈ l, c.name.size ≤ 9223372036854775807) :
    Calls Tryz.prog 20 #[.agg #[.string sc, av]] w fun e w' => e = .returned (.bool (filRight sc l)) ∧ Mod (fun _ => False) w w' := by
  obtain ⟨a, cap, rfl, hcap⟩ : ∃ a c, av = .slice a l.length c ∧ l.length ≤ c := by obtain ⟨-, a, c, h, h2, -⟩ := hv; exact ⟨a, c, h, h2⟩
  have hll' : (l.length : Int) ≤ 9223372036854775807 := by omega
  have hcap' : (l.length : Int) ≤ cap := by omega
  obtain ⟨wa, hwa⟩ : ∃ wa : World, w.alloc (.cells #[.string sc, .slice a l.length cap] 29) = wa := ⟨_, rfl⟩
  have hmwa : Mod (fun _ => False) w wa := hwa ▸ (Mod.refl (fun _ => False) w).alloc _
  have hgwa := heap_alloc_new w (.cells #[.string sc, .slice a l.length cap] 29)
  rw [hwa] at hgwa
  have hzwa : wa.heap.size = w.heap.size + 1 := by rw [← hwa]; simp
  have hva := hv.mod hmwa (fun _ _ h => h)
  have hg := hgwa
  have c1 : wa.cell? ⟨w.heap.size, 1, none⟩ = some (.slice a l.length cap) := cell_of hgwa rfl
  obtain ⟨R, hR⟩ : ∃ R, filRight sc l = R := ⟨_, rfl⟩
  rw [hR]
  have hqz : w.heap.size < wa.heap.size := by omega
  have hsc' := hsc
  have Hv := Lib.hid hv
  have Hn := Lib.hid hn
  have Hwa := Lib.hid hwa
  have Hmwa := Lib.hid hmwa
  have Hgwa := Lib.hid hgwa
  have Hva := Lib.hid hva
  have HR := Lib.hid hR
  have Hg := Lib.hid hg
  clear hv hn hwa hmwa hgwa hva hR hg hzwa hll hsc
  go_enter Tryz.func20, Tryz.ntmps20
  go_wp2_with (first | (rw [show w.alloc _ = wa from Hwa.out]) | fail)
  go_loopw [8] (fun i wr => ∃ j : Nat, i = .int .i64 j ∧ j ≤ l.length ∧ Mod (fun _ => False) wa wr ∧ (∀ (k : Nat) (x : Cnd), k < j → l[k]? = some x → x.rightB = true)) (fun i _ => l.length - (intOf i).toNat)
  case atStart => exact ⟨0, rfl, Nat.zero_le _, Mod.refl _ _, fun k x hk => by omega⟩
  case round =>
    obtain ⟨j, rfl, hj, hmr, hall⟩ := hrel
    by_cases hlt : j < l.length
    · have hlt' : (j : Int) < l.length := by omega
      obtain ⟨x, hxj⟩ : ∃ x, l[j]? = some x := ⟨_, List.getElem?_eq_getElem hlt⟩
      have hxm := List.mem_of_getElem? hxj
      obtain ⟨g, off, rfl, hf⟩ : ∃ g off, a = some ⟨g, off, none⟩ ∧ CellsAt wr g (off + j * 7) x.cells := rd_cnd (Hva.out.mod hmr (fun _ _ h => h)) hxj
      obtain ⟨wz, hwz⟩ : ∃ wz : World, wr.alloc (.cells x.cells.toArray 81) = wz := ⟨_, rfl⟩
      have hmwz : Mod (fun _ => False) wr wz := hwz ▸ (Mod.refl (fun _ => False) wr).alloc _
      have hgwz := heap_alloc_new wr (.cells x.cells.toArray 81)
      rw [hwz] at hgwz
      have hzwz : wz.heap.size = wr.heap.size + 1 := by rw [← hwz]; simp
      have hmz := hmr.trans hmwz (fun _ _ h => h)
      have hcr := cond_right x (Hn.out x hxm) wz
      have Hmr := Lib.hid hmr
      have Hall := Lib.hid hall
      have Hxj := Lib.hid hxj
      have Hxm := Lib.hid hxm
      have Hf := Lib.hid hf
      have Hwz := Lib.hid hwz
      have Hmwz := Lib.hid hmwz
      have Hgwz := Lib.hid hgwz
      have Hmz := Lib.hid hmz
      have Hcr := Lib.hid hcr
      clear hmr hall hxj hxm hf hwz hmwz hgwz hmz hcr hzwz
      go_wp2_with (first | ((with_reducible refine wpList_load_lit 81 (.tmp 10) ?_); refine ⟨g, off + j * 7, rfl, x.cells, Hf.out, by kernel_rfl, by kernel_rfl, ?_⟩) | ((with_reducible refine wpList_store_lit 81 (.tmp 4) (.tmp 11) ?_); refine ⟨rfl, x.cells, rfl, rfl, by kernel_rfl, rfl, ?_⟩; rw [Hwz.out]) | ((with_reducible refine wpList_load_lit 81 (.tmp 4) ?_); refine ⟨wr.heap.size, 0, rfl, x.cells, CellsAt.row Hgwz.out, by kernel_rfl, by kernel_rfl, ?_⟩) | fail)
      refine Hcr.out.mono ?_
      rintro e w3 ⟨rfl, hm3⟩
      have Hm3 := Lib.hid (Hmz.out.trans hm3 (fun _ _ h => h))
      clear hm3
      cases hs : x.rightB with
      | true =>
        have Hs := Lib.hid hs
        clear hs
        go_wp2_with fail
        go_roundw
        case rel =>
          refine ⟨j + 1, by go_num, hlt, Hm3.out, fun k x' hk hx' => ?_⟩
          rcases Nat.lt_succ_iff_lt_or_eq.1 hk with hk | rfl
          · exact Hall.out k x' hk hx'
          · rw [Hxj.out] at hx'; cases hx'; exact Hs.out
        case measure => simp [intOf]; omega
      | false =>
        have Hs := Lib.hid hs
        clear hs
        go_wp2
        go_ret
        refine ⟨?_, Hmwa.out.trans Hm3.out (fun _ _ h => h)⟩
        have hf : filRight sc l = false := by
          unfold filRight
          rw [List.all_eq_false.2 ⟨x, Hxm.out, by rw [Hs.out]; decide⟩, Bool.false_and]
        rw [← HR.out, hf]
        rfl
    · obtain rfl : j = l.length := by omega
      have hgr := hmr.heap Hg.out (fun h => h)
      have c0 : wr.cell? ⟨w.heap.size, 0, none⟩ = some (.string sc) := cell_of hgr rfl
      have c1 : wr.cell? ⟨w.heap.size, 1, none⟩ = some (.slice a l.length cap) := cell_of hgr rfl
      have hsr := scope_right sc hsc' wr
      have hfr : filRight sc l = (scRight sc && decide (l.length ≤ 6)) := by
        unfold filRight
        rw [List.all_eq_true.2 fun x hx => by
          obtain ⟨k, hk⟩ := List.mem_iff_getElem?.1 hx
          exact hall k x (List.getElem?_eq_some_iff.1 hk).1 hk, Bool.true_and]
      rw [HR.out] at hfr
      have hmr2 := Hmwa.out.trans hmr (fun _ _ h => h)
      have Hmr2 := Lib.hid hmr2
      have Hsr := Lib.hid hsr
      have Hfr := Lib.hid hfr
      have Hgr := Lib.hid hgr
      clear hmr2 hsr hfr hgr hmr hall
      go_wp2_with fail
      refine Hsr.out.mono ?_
      rintro e w3 ⟨rfl, hm3⟩
      have hg3 := hm3.heap Hgr.out (fun h => h)
      have c1 : w3.cell? ⟨w.heap.size, 1, none⟩ = some (.slice a l.length cap) := cell_of hg3 rfl
      have Hm3 := Lib.hid (Hmr2.out.trans hm3 (fun _ _ h => h))
      clear hm3 hg3
      cases hs : scRight sc with
      | false =>
        have Hs := Lib.hid hs
        clear hs
        go_wp2
        go_ret
        refine ⟨?_, Hm3.out⟩
        rw [Hfr.out, Hs.out]
        rfl
      | true =>
        have Hs := Lib.hid hs
        clear hs
        go_wp2
        go_ret
        refine ⟨?_, Hm3.out⟩
        rw [Hfr.out, Hs.out, Bool.true_and]
        show Ending.returned (.bool (decide ((l.length : Int) ≤ 6))) = _
        congr 2
        exact decide_eq_decide.2 (by omega)
end Go.Proofs.YtloplmaekonenaaGreatDoor
