/-
  Package event: an attribute's place (slices.BinarySearchFunc), of attributes that rise by their names.
-/
import Derived.Test.YtpfnemkfbelpcaaCmp
import Derived.Test.YtpfnemkfbelpcaaLit
namespace Go.Proofs.Ytpfnemkfbelpcaa
set_option maxRecDepth 20000
open Go.RowKit

/-- Names rise. -/
def rises (l : List Att) : Prop := ∀ (i j : Nat) (x y : Att), i < j → l[i]? = some x → l[j]? = some y → Op.bytesLess x.name.data.toList y.name.data.toList = true
theorem rises.less {l : List Att} (h : rises l) {i j : Nat} {x y : Att} {s : List UInt8} (hij : i < j) (hx : l[i]? = some x) (hy : l[j]? = some y) (hl : Op.bytesLess y.name.data.toList s = true) : Op.bytesLess x.name.data.toList s = true :=
  less_trans _ _ _ (h i j x y hij hx hy) hl
theorem rises.more {l : List Att} (h : rises l) {i j : Nat} {x y : Att} {s : List UInt8} (hij : i < j) (hx : l[i]? = some x) (hy : l[j]? = some y) (hl : Op.bytesLess x.name.data.toList s = false) : Op.bytesLess y.name.data.toList s = false :=
  Bool.eq_false_iff.2 fun hh => by rw [h.less hij hx hy hh] at hl; cases hl
/-- How many stand ahead of a name. -/
def pos (l : List Att) (s : ByteArray) : Nat := (l.takeWhile fun a => Op.bytesLess a.name.data.toList s.data.toList).length
def there (l : List Att) (s : ByteArray) : Bool := match l[pos l s]? with | some a => a.name.data.toList == s.data.toList | none => false

theorem pos_is : ∀ (l : List Att) (s : ByteArray) (i : Nat), i ≤ l.length → (∀ k x, k < i → l[k]? = some x → Op.bytesLess x.name.data.toList s.data.toList = true) → (∀ x, l[i]? = some x → Op.bytesLess x.name.data.toList s.data.toList = false) → pos l s = i
  | [], s, i, hi, _, _ => by
    have : i = 0 := by simpa using hi
    subst this; rfl
  | a :: l, s, 0, _, _, h => by
    have := h a rfl
    unfold pos
    rw [List.takeWhile_cons, this]
    rfl
  | a :: l, s, i + 1, hi, h1, h2 => by
    have ha := h1 0 a (by omega) rfl
    have ih := pos_is l s i (by simpa using hi) (fun k x hk hx => h1 (k + 1) x (by omega) (by simpa using hx)) (fun x hx => h2 x (by simpa using hx))
    unfold pos at ih ⊢
    rw [List.takeWhile_cons, ha]
    simp only [if_true, List.length_cons, ih]
theorem pos_le (l : List Att) (s : ByteArray) : pos l s ≤ l.length := by
  unfold pos
  exact (List.takeWhile_prefix _).length_le

theorem find1 (x : Att) (s : ByteArray) (w : World) : Calls Try.prog 87 #[.agg x.cells.toArray, .string s] w fun e w' => e = .returned (.int .i64 (Lib.compareBytes x.name.data.toList s.data.toList)) ∧ Mod (fun _ => False) w w' := by
  obtain ⟨nm, v⟩ := x
  obtain ⟨wa, hwa⟩ : ∃ wa : World, w.alloc (.cells (⟨nm, v⟩ : Att).cells.toArray 48) = wa := ⟨_, rfl⟩
  have hmwa : Mod (fun _ => False) w wa := hwa ▸ (Mod.refl (fun _ => False) w).alloc _
  have hgwa := heap_alloc_new w (.cells (⟨nm, v⟩ : Att).cells.toArray 48)
  rw [hwa] at hgwa
  have hzwa : wa.heap.size = w.heap.size + 1 := by rw [← hwa]; simp
  have Hc := Lib.hid (cmp_at nm s wa)
  have c0 : wa.cell? ⟨w.heap.size, 0, none⟩ = some (.string nm) := cell_of hgwa rfl
  have Hwa := Lib.hid hwa
  have Hmwa := Lib.hid hmwa
  have Hgwa := Lib.hid hgwa
  have Hzwa := Lib.hid hzwa
  clear hwa hmwa hgwa hzwa
  go_enter Try.func87, Try.ntmps87
  go_wp2_with (first | (rw [show w.alloc _ = wa from Hwa.out]) | fail)
  refine Hc.out.mono ?_
  rintro e w' ⟨rfl, rfl⟩
  go_wp2
  go_ret
  exact ⟨rfl, Hmwa.out⟩

set_option maxRecDepth 20000 in
set_option maxHeartbeats 4000000 in
theorem bsearch_at (w : World) (a : Option Addr) (cap : Nat) (l : List Att) (hv : RdSl w 6 (.slice a l.length cap) l.length (atts l)) (hll : l.length ≤ 1000000) (hr : rises l) (s : ByteArray) :
    Calls Try.prog 86 #[.slice a l.length cap, .string s, .func (.func 87) #[] #[]] w fun e w' =>
      e = .returned (.tuple #[.int .i64 (pos l s), .bool (there l s)]) ∧ Mod (fun _ => False) w w' := by
  have hll' : (l.length : Int) ≤ 1000000 := by omega
  have hcf : ∀ args w, (callFunc 87 args).run Try.prog w = .ok (.enter 87 args) w := fun args w => by simp [go_sem]
  obtain ⟨-, a', cap', h1, hcap, hnil, hrd⟩ := hv
  cases h1
  have hcap' : (l.length : Int) ≤ cap := by omega
  have Hr := Lib.hid hr
  have Hrd := Lib.hid hrd
  have Hcf := Lib.hid hcf
  have Hnil := Lib.hid hnil
  clear hr hrd hcf hnil
  go_enter Try.func86, Try.ntmps86
  go_wp2_with fail
  go_loopw [9, 10] (fun ti tj wr => ∃ i j : Nat, ti = .int .i64 i ∧ tj = .int .i64 j ∧ i ≤ j ∧ j ≤ l.length ∧ Mod (fun _ => False) w wr ∧ (∀ k x, k < i → l[k]? = some x → Op.bytesLess x.name.data.toList s.data.toList = true) ∧
    (∀ k x, j ≤ k → l[k]? = some x → Op.bytesLess x.name.data.toList s.data.toList = false)) (fun ti tj _ => (intOf tj).toNat - (intOf ti).toNat)
  case atStart => exact ⟨0, l.length, rfl, rfl, Nat.zero_le _, Nat.le_refl _, Mod.refl _ _, fun k x hk => by omega, fun k x hk hx => by
    have := (List.getElem?_eq_some_iff.1 hx).1; omega⟩
  case round =>
    obtain ⟨i, j, rfl, rfl, hij, hjl, hm, hlo, hhi⟩ := hrel
    have Hm := Lib.hid hm
    have Hlo := Lib.hid hlo
    have Hhi := Lib.hid hhi
    clear hm hlo hhi
    by_cases hlt : i < j
    · have hlt' : (i : Int) < j := by omega
      have hj' : (j : Int) ≤ 1000000 := by omega
      obtain ⟨h, hh, hih, hhj⟩ : ∃ h : Nat, ((i : Int) + (j : Int)) / 2 = (h : Int) ∧ i ≤ h ∧ h < j := ⟨(i + j) / 2, by omega, by omega, by omega⟩
      have hhl : (h : Int) < l.length := by omega
      obtain ⟨x, hx⟩ : ∃ x, l[h]? = some x := ⟨_, List.getElem?_eq_getElem (by omega)⟩
      obtain ⟨b, rfl⟩ : ∃ b, a = some b := by
        cases a with
        | none => exact absurd (Hnil.out rfl) (by omega)
        | some b => exact ⟨b, rfl⟩
      obtain ⟨g, off, rfl, hc⟩ := Hrd.out b rfl (by omega)
      have hf : CellsAt wr g (off + h * 6) x.cells := fun q u hu => by
        have := Hm.out.cell (hc (6 * h + q) u (atts_at l hx hu)) (fun h => h)
        rw [show off + h * 6 + q = off + (6 * h + q) by omega]
        exact this
      have c0 : wr.cell? ⟨g, off + h * 6, none⟩ = some (.string x.name) := hf 0 _ rfl
      have c1 : wr.cell? ⟨g, off + h * 6 + 1, none⟩ = some (.int .i64 x.v.kind) := hf 1 _ rfl
      have c2 : wr.cell? ⟨g, off + h * 6 + 2, none⟩ = some (.int .i64 x.v.int) := hf 2 _ rfl
      have c3 : wr.cell? ⟨g, off + h * 6 + 3, none⟩ = some (.float .f64 x.v.num) := hf 3 _ rfl
      have c4 : wr.cell? ⟨g, off + h * 6 + 4, none⟩ = some (.string x.v.text) := hf 4 _ rfl
      have c5 : wr.cell? ⟨g, off + h * 6 + 5, none⟩ = some (.bool x.v.yes) := hf 5 _ rfl
      have hf1 := find1 x s wr
      have hcl := cmp_less x.name.data.toList s.data.toList
      generalize Lib.compareBytes x.name.data.toList s.data.toList = C at hf1 hcl
      have Hx := Lib.hid hx
      have Hc := Lib.hid hc
      have Hf := Lib.hid hf
      have Hf1 := Lib.hid hf1
      have Hcl := Lib.hid hcl
      clear hx hc hf hf1 hcl
      have hcall := Hcf.out
      go_wp2_with fail
      refine Hf1.out.mono ?_
      rintro e w2 ⟨rfl, hm2⟩
      have hm3 := Hm.out.trans hm2 (fun _ _ h => h)
      have Hm3 := Lib.hid hm3
      clear hm3 hm2 hcall Hf1 c0 c1 c2 c3 c4 c5
      by_cases hC : C < 0
      · have hl : Op.bytesLess x.name.data.toList s.data.toList = true := Hcl.out.1 hC
        have Hl := Lib.hid hl
        clear hl
        go_wp2_with fail
        go_roundw
        case rel =>
          refine ⟨h + 1, j, by go_num, rfl, by omega, hjl, Hm3.out, fun k y hk hy => ?_, Hhi.out⟩
          rcases Nat.lt_succ_iff_lt_or_eq.1 hk with hk | rfl
          · exact Hr.out.less hk hy Hx.out Hl.out
          · rw [Hx.out] at hy; cases hy; exact Hl.out
        case measure => simp [intOf]; omega
      · have hl : Op.bytesLess x.name.data.toList s.data.toList = false := Bool.eq_false_iff.2 fun h => hC (Hcl.out.2 h)
        have Hl := Lib.hid hl
        clear hl
        go_wp2_with fail
        go_roundw
        case rel =>
          refine ⟨i, h, rfl, rfl, hih, by omega, Hm3.out, Hlo.out, fun k y hk hy => ?_⟩
          rcases Nat.lt_or_eq_of_le hk with hk | rfl
          · exact Hr.out.more hk Hx.out hy Hl.out
          · rw [Hx.out] at hy; cases hy; exact Hl.out
        case measure => simp [intOf]; omega
    · obtain rfl : i = j := by omega
      have hpos := pos_is l s i hjl Hlo.out (fun x hx => Hhi.out i x (Nat.le_refl _) hx)
      by_cases hin : i < l.length
      · have hin' : (i : Int) < l.length := by omega
        obtain ⟨x, hx⟩ : ∃ x, l[i]? = some x := ⟨_, List.getElem?_eq_getElem hin⟩
        obtain ⟨b, rfl⟩ : ∃ b, a = some b := by
          cases a with
          | none => exact absurd (Hnil.out rfl) (by omega)
          | some b => exact ⟨b, rfl⟩
        obtain ⟨g, off, rfl, hc⟩ := Hrd.out b rfl (by omega)
        have hf : CellsAt wr g (off + i * 6) x.cells := fun q u hu => by
          have := Hm.out.cell (hc (6 * i + q) u (atts_at l hx hu)) (fun h => h)
          rw [show off + i * 6 + q = off + (6 * i + q) by omega]
          exact this
        have c0 : wr.cell? ⟨g, off + i * 6, none⟩ = some (.string x.name) := hf 0 _ rfl
        have c1 : wr.cell? ⟨g, off + i * 6 + 1, none⟩ = some (.int .i64 x.v.kind) := hf 1 _ rfl
        have c2 : wr.cell? ⟨g, off + i * 6 + 2, none⟩ = some (.int .i64 x.v.int) := hf 2 _ rfl
        have c3 : wr.cell? ⟨g, off + i * 6 + 3, none⟩ = some (.float .f64 x.v.num) := hf 3 _ rfl
        have c4 : wr.cell? ⟨g, off + i * 6 + 4, none⟩ = some (.string x.v.text) := hf 4 _ rfl
        have c5 : wr.cell? ⟨g, off + i * 6 + 5, none⟩ = some (.bool x.v.yes) := hf 5 _ rfl
        have hf1 := find1 x s wr
        have hth : there l s = (Lib.compareBytes x.name.data.toList s.data.toList == 0) := by
          unfold there
          rw [hpos, hx]
          have := cmp_zero x.name.data.toList s.data.toList
          rw [Bool.eq_iff_iff, beq_iff_eq, beq_iff_eq, this]
        generalize Lib.compareBytes x.name.data.toList s.data.toList = C at hf1 hth
        have Hx := Lib.hid hx
        have Hc := Lib.hid hc
        have Hf := Lib.hid hf
        have Hf1 := Lib.hid hf1
        have Hpos := Lib.hid hpos
        have Hth := Lib.hid hth
        clear hx hc hf hf1 hpos hth
        have hcall := Hcf.out
        go_wp2_with fail
        refine Hf1.out.mono ?_
        rintro e w2 ⟨rfl, hm2⟩
        have hm3 := Hm.out.trans hm2 (fun _ _ h => h)
        have Hm3 := Lib.hid hm3
        clear hm3 hm2 hcall Hf1 c0 c1 c2 c3 c4 c5
        go_wp2
        go_ret2
        exact ⟨by rw [Hpos.out, Hth.out]; rfl, Hm3.out⟩
      · have hin' : (l.length : Int) ≤ i := by omega
        have hth : there l s = false := by
          unfold there
          rw [hpos, List.getElem?_eq_none (by omega)]
        have Hpos := Lib.hid hpos
        have Hth := Lib.hid hth
        clear hpos hth
        go_wp2
        go_ret2
        exact ⟨by rw [Hpos.out, Hth.out]; rfl, Hm.out⟩

set_option maxHeartbeats 1000000 in
theorem find_at (w : World) (sc : ByteArray) (av : Value) (l : List Att) (hv : RdSl w 6 av l.length (atts l)) (hll : l.length ≤ 1000000) (hr : rises l) (s : ByteArray) :
    Calls Try.prog 59 #[.agg #[.string sc, av], .string s] w fun e w' => e = .returned (.tuple #[.int .i64 (pos l s), .bool (there l s)]) ∧ Mod (fun _ => False) w w' := by
  obtain ⟨a, cap, rfl⟩ : ∃ a c, av = .slice a l.length c := by obtain ⟨-, a, c, h, -⟩ := hv; exact ⟨a, c, h⟩
  obtain ⟨wa, hwa⟩ : ∃ wa : World, w.alloc (.cells #[.string sc, .slice a l.length cap] 40) = wa := ⟨_, rfl⟩
  have hmwa : Mod (fun _ => False) w wa := hwa ▸ (Mod.refl (fun _ => False) w).alloc _
  have hgwa := heap_alloc_new w (.cells #[.string sc, .slice a l.length cap] 40)
  rw [hwa] at hgwa
  have hzwa : wa.heap.size = w.heap.size + 1 := by rw [← hwa]; simp
  have c0 : wa.cell? ⟨w.heap.size, 1, none⟩ = some (.slice a l.length cap) := cell_of hgwa rfl
  have Hb := Lib.hid (bsearch_at wa a cap l (hv.mod hmwa (fun _ _ h => h)) hll hr s)
  have Hwa := Lib.hid hwa
  have Hmwa := Lib.hid hmwa
  have Hgwa := Lib.hid hgwa
  have Hzwa := Lib.hid hzwa
  clear hwa hmwa hgwa hzwa hv hr
  go_enter Try.func59, Try.ntmps59
  go_wp2_with (first | (rw [show w.alloc _ = wa from Hwa.out]) | fail)
  refine Hb.out.mono ?_
  rintro e w' ⟨rfl, hm⟩
  have Hm := Lib.hid hm
  clear hm
  go_wp2
  go_ret2
  exact ⟨rfl, Hmwa.out.trans Hm.out (fun _ _ h => h)⟩
end Go.Proofs.Ytpfnemkfbelpcaa
