/-
  Package event: Same.
-/
import Derived.Test.YtpfnemkfbelpcaaIns
import Derived.Test.YtpfnemkfbelpcaaSame
namespace Go.Proofs.Ytpfnemkfbelpcaa
set_option maxRecDepth 20000
open Go.RowKit

def Att.same (a b : Att) : Bool := a.name.toList == b.name.toList && V.same a.v b.v
/-- The same attributes, one by one. -/
def attsSame : List Att → List Att → Bool
  | [], [] => true
  | a :: l, b :: m => Att.same a b && attsSame l m
  | _, _ => false
theorem attsSame_length : ∀ {l m : List Att}, attsSame l m = true → l.length = m.length
  | [], [], _ => rfl
  | [], _ :: _, h => by simp [attsSame] at h
  | _ :: _, [], h => by simp [attsSame] at h
  | a :: l, b :: m, h => by
    simp only [attsSame, Bool.and_eq_true] at h
    rw [List.length_cons, List.length_cons, attsSame_length h.2]
theorem attsSame_at : ∀ {l m : List Att} {k : Nat} {a b : Att}, l[k]? = some a → m[k]? = some b → Att.same a b = false → attsSame l m = false
  | [], _, k, a, b, h, _, _ => by simp at h
  | _ :: _, [], k, a, b, _, h, _ => by simp at h
  | x :: l, y :: m, 0, a, b, h1, h2, h => by
    cases h1; cases h2
    simp [attsSame, h]
  | x :: l, y :: m, k + 1, a, b, h1, h2, h => by
    rw [List.getElem?_cons_succ] at h1 h2
    simp [attsSame, attsSame_at h1 h2 h]
theorem attsSame_all : ∀ {l m : List Att}, l.length = m.length → (∀ (k : Nat) (a b : Att), l[k]? = some a → m[k]? = some b → Att.same a b = true) → attsSame l m = true
  | [], [], _, _ => rfl
  | [], _ :: _, h, _ => by simp at h
  | _ :: _, [], h, _ => by simp at h
  | a :: l, b :: m, h, hh => by
    simp only [attsSame, Bool.and_eq_true]
    exact ⟨hh 0 a b rfl rfl, attsSame_all (by simpa using h) fun k x y hx hy => hh (k + 1) x y (by simpa using hx) (by simpa using hy)⟩

set_option maxHeartbeats 1000000 in
theorem same1 (x y : Att) (hx : x.v.num < 2 ^ 64) (hy : y.v.num < 2 ^ 64) (w : World) : Calls Try.prog 44 #[.agg x.cells.toArray, .agg y.cells.toArray] w fun e w' => e = .returned (.bool (Att.same x y)) ∧ Mod (fun _ => False) w w' := by
  obtain ⟨wa, hwa⟩ : ∃ wa : World, w.alloc (.cells x.cells.toArray 48) = wa := ⟨_, rfl⟩
  have hmwa : Mod (fun _ => False) w wa := hwa ▸ (Mod.refl (fun _ => False) w).alloc _
  have hgwa := heap_alloc_new w (.cells x.cells.toArray 48)
  rw [hwa] at hgwa
  have hzwa : wa.heap.size = w.heap.size + 1 := by rw [← hwa]; simp
  obtain ⟨wb, hwb⟩ : ∃ wb : World, wa.alloc (.cells y.cells.toArray 48) = wb := ⟨_, rfl⟩
  have hmwb : Mod (fun _ => False) wa wb := hwb ▸ (Mod.refl (fun _ => False) wa).alloc _
  have hgwb := heap_alloc_new wa (.cells y.cells.toArray 48)
  rw [hwb] at hgwb
  have hzwb : wb.heap.size = wa.heap.size + 1 := by rw [← hwb]; simp
  have hmb : Mod (fun _ => False) w wb := hmwa.trans hmwb (fun _ _ h => h)
  have hgA := hmwb.heap hgwa (fun h => h)
  have c0 : wb.cell? ⟨w.heap.size, 0, none⟩ = some (.string x.name) := cell_of hgA rfl
  have c1 : wb.cell? ⟨w.heap.size, 1, none⟩ = some (.int .i64 x.v.kind) := cell_of hgA rfl
  have c2 : wb.cell? ⟨w.heap.size, 2, none⟩ = some (.int .i64 x.v.int) := cell_of hgA rfl
  have c3 : wb.cell? ⟨w.heap.size, 3, none⟩ = some (.float .f64 x.v.num) := cell_of hgA rfl
  have c4 : wb.cell? ⟨w.heap.size, 4, none⟩ = some (.string x.v.text) := cell_of hgA rfl
  have c5 : wb.cell? ⟨w.heap.size, 5, none⟩ = some (.bool x.v.yes) := cell_of hgA rfl
  have d0 : wb.cell? ⟨wa.heap.size, 0, none⟩ = some (.string y.name) := cell_of hgwb rfl
  have d1 : wb.cell? ⟨wa.heap.size, 1, none⟩ = some (.int .i64 y.v.kind) := cell_of hgwb rfl
  have d2 : wb.cell? ⟨wa.heap.size, 2, none⟩ = some (.int .i64 y.v.int) := cell_of hgwb rfl
  have d3 : wb.cell? ⟨wa.heap.size, 3, none⟩ = some (.float .f64 y.v.num) := cell_of hgwb rfl
  have d4 : wb.cell? ⟨wa.heap.size, 4, none⟩ = some (.string y.v.text) := cell_of hgwb rfl
  have d5 : wb.cell? ⟨wa.heap.size, 5, none⟩ = some (.bool y.v.yes) := cell_of hgwb rfl
  have hsm := value_same x.v y.v hx hy wb
  have hlz : w.heap.size < wa.heap.size := by omega
  have Hwa := Lib.hid hwa
  have Hwb := Lib.hid hwb
  have Hmb := Lib.hid hmb
  have Hsm := Lib.hid hsm
  have Hmwa := Lib.hid hmwa
  have Hmwb := Lib.hid hmwb
  have Hgwa := Lib.hid hgwa
  have Hgwb := Lib.hid hgwb
  have Hzwa := Lib.hid hzwa
  have Hzwb := Lib.hid hzwb
  have HgA := Lib.hid hgA
  clear hwa hwb hmb hsm hmwa hmwb hgwa hgwb hzwa hzwb hgA
  cases hn : x.name.toList == y.name.toList with
  | false =>
    rw [show Att.same x y = false by unfold Att.same; rw [hn]; rfl]
    go_enter Try.func44, Try.ntmps44
    go_wp2_with (first | (rw [show w.alloc _ = wa from Hwa.out]) | (rw [show wa.alloc _ = wb from Hwb.out]) | fail)
    go_ret
    exact ⟨rfl, Hmb.out⟩
  | true =>
    rw [show Att.same x y = V.same x.v y.v by unfold Att.same; rw [hn]; rfl]
    go_enter Try.func44, Try.ntmps44
    go_wp2_with (first | (rw [show w.alloc _ = wa from Hwa.out]) | (rw [show wa.alloc _ = wb from Hwb.out]) | fail)
    refine Hsm.out.mono ?_
    rintro e w' ⟨rfl, hm⟩
    have Hm := Lib.hid (Hmb.out.trans hm (fun _ _ h => h))
    clear hm
    go_wp2
    go_ret
    exact ⟨rfl, Hm.out⟩

/-- An element of what reads as attributes. -/
theorem rd_elem {w : World} {a : Option Addr} {cap : Nat} {l : List Att} {j : Nat} {x : Att} (h : RdSl w 6 (.slice a l.length cap) l.length (atts l)) (hx : l[j]? = some x) : ∃ g off, a = some ⟨g, off, none⟩ ∧ CellsAt w g (off + j * 6) x.cells := by
  obtain ⟨-, a', c', h1, -, h3, h4⟩ := h
  cases h1
  cases a with
  | none => have := (List.getElem?_eq_some_iff.1 hx).1; exact absurd (h3 rfl) (by omega)
  | some b =>
    obtain ⟨g', off', h5, h6⟩ := h4 _ rfl (by have := (List.getElem?_eq_some_iff.1 hx).1; omega)
    refine ⟨g', off', by rw [h5], fun i u hu => ?_⟩
    have := h6 (6 * j + i) u (atts_at _ hx hu)
    rw [show off' + j * 6 + i = off' + (6 * j + i) by omega]
    exact this

set_option maxRecDepth 20000 in
set_option maxHeartbeats 4000000 in
theorem equal_at (w : World) (av bv : Value) (l m : List Att) (hv : RdSl w 6 av l.length (atts l)) (hu : RdSl w 6 bv m.length (atts m)) (hll : l.length ≤ 1000000) (hml : m.length ≤ 1000000) (hx : ∀ x ∈ l, x.v.num < 2 ^ 64) (hy : ∀ x ∈ m, x.v.num < 2 ^ 64) :
    Calls Try.prog 43 #[av, bv, .func (.func 44) #[] #[]] w fun e w' => e = .returned (.bool (attsSame l m)) ∧ Mod (fun _ => False) w w' := by
  obtain ⟨a, ca, rfl, hca⟩ : ∃ a c, av = .slice a l.length c ∧ l.length ≤ c := by obtain ⟨-, a, c, h, h2, -⟩ := hv; exact ⟨a, c, h, h2⟩
  obtain ⟨b, cb, rfl, hcb⟩ : ∃ a c, bv = .slice a m.length c ∧ m.length ≤ c := by obtain ⟨-, a, c, h, h2, -⟩ := hu; exact ⟨a, c, h, h2⟩
  have hll' : (l.length : Int) ≤ 1000000 := by omega
  have hml' : (m.length : Int) ≤ 1000000 := by omega
  have hca' : (l.length : Int) ≤ ca := by omega
  have hcb' : (m.length : Int) ≤ cb := by omega
  have hcf : ∀ args w, (callFunc 44 args).run Try.prog w = .ok (.enter 44 args) w := fun args w => by simp [go_sem]
  have Hv := Lib.hid hv
  have Hu := Lib.hid hu
  have Hx := Lib.hid hx
  have Hy := Lib.hid hy
  have Hcf := Lib.hid hcf
  clear hv hu hx hy hcf
  by_cases hlm : l.length = m.length
  rotate_left
  · have hlm' : ((l.length : Int) != (m.length : Int)) = true := by simpa [bne_iff_ne] using (by omega : ¬ (l.length : Int) = (m.length : Int))
    have hf : attsSame l m = false := Bool.eq_false_iff.2 fun h => hlm (attsSame_length h)
    rw [hf]
    clear hf hlm
    go_enter Try.func43, Try.ntmps43
    go_wp2
    go_ret
    exact ⟨rfl, Mod.refl _ _⟩
  have hlm' : ((l.length : Int) != (m.length : Int)) = false := by rw [hlm]; simp
  have Hlm := Lib.hid hlm
  obtain ⟨R, hR⟩ : ∃ R, attsSame l m = R := ⟨_, rfl⟩
  rw [hR]
  have HR := Lib.hid hR
  clear hR hlm
  go_enter Try.func43, Try.ntmps43
  go_wp2_with fail
  go_loopw [17] (fun i wr => ∃ j : Nat, i = .int .i64 j ∧ j ≤ l.length ∧ Mod (fun _ => False) w wr ∧ (∀ (k : Nat) (x y : Att), k < j → l[k]? = some x → m[k]? = some y → Att.same x y = true)) (fun i _ => l.length - (intOf i).toNat)
  case atStart => exact ⟨0, rfl, Nat.zero_le _, Mod.refl _ _, fun k x y hk => by omega⟩
  case round =>
    obtain ⟨j, rfl, hj, hmr, hall⟩ := hrel
    by_cases hlt : j < l.length
    · have hlt' : (j : Int) < l.length := by omega
      have hltm : (j : Int) < m.length := by have := Hlm.out; omega
      obtain ⟨x, hxj⟩ : ∃ x, l[j]? = some x := ⟨_, List.getElem?_eq_getElem hlt⟩
      obtain ⟨y, hyj⟩ : ∃ y, m[j]? = some y := ⟨_, List.getElem?_eq_getElem (by omega)⟩
      have hxn := Hx.out x (List.mem_of_getElem? hxj)
      have hyn := Hy.out y (List.mem_of_getElem? hyj)
      obtain ⟨g, off, rfl, hf⟩ : ∃ g off, a = some ⟨g, off, none⟩ ∧ CellsAt wr g (off + j * 6) x.cells := rd_elem (Hv.out.mod hmr (fun _ _ h => h)) hxj
      obtain ⟨gr, offr, rfl, hr⟩ : ∃ g off, b = some ⟨g, off, none⟩ ∧ CellsAt wr g (off + j * 6) y.cells := rd_elem (Hu.out.mod hmr (fun _ _ h => h)) hyj
      obtain ⟨wz1, hwz1⟩ : ∃ wz1 : World, wr.alloc (.cells x.cells.toArray 48) = wz1 := ⟨_, rfl⟩
      have hmwz1 : Mod (fun _ => False) wr wz1 := hwz1 ▸ (Mod.refl (fun _ => False) wr).alloc _
      have hgwz1 := heap_alloc_new wr (.cells x.cells.toArray 48)
      rw [hwz1] at hgwz1
      have hzwz1 : wz1.heap.size = wr.heap.size + 1 := by rw [← hwz1]; simp
      obtain ⟨wz2, hwz2⟩ : ∃ wz2 : World, wz1.alloc (.cells y.cells.toArray 48) = wz2 := ⟨_, rfl⟩
      have hmwz2 : Mod (fun _ => False) wz1 wz2 := hwz2 ▸ (Mod.refl (fun _ => False) wz1).alloc _
      have hgwz2 := heap_alloc_new wz1 (.cells y.cells.toArray 48)
      rw [hwz2] at hgwz2
      have hzwz2 : wz2.heap.size = wz1.heap.size + 1 := by rw [← hwz2]; simp
      have hr2 := hr.mod hmwz1 (fun h => h)
      have hgx := hmwz2.heap hgwz1 (fun h => h)
      have hmz : Mod (fun _ => False) w wz2 := (hmr.trans hmwz1 (fun _ _ h => h)).trans hmwz2 (fun _ _ h => h)
      have hsm := same1 x y hxn hyn wz2
      have hlz : wr.heap.size < wz1.heap.size := by omega
      have Hmr := Lib.hid hmr
      have Hall := Lib.hid hall
      have Hxj := Lib.hid hxj
      have Hyj := Lib.hid hyj
      have Hxn := Lib.hid hxn
      have Hyn := Lib.hid hyn
      have Hf := Lib.hid hf
      have Hr := Lib.hid hr
      have Hmz := Lib.hid hmz
      have Hsm := Lib.hid hsm
      have Hgx := Lib.hid hgx
      have Hgwz2 := Lib.hid hgwz2
      have Hr2 := Lib.hid hr2
      have Hmwz1 := Lib.hid hmwz1
      have Hmwz2 := Lib.hid hmwz2
      have Hgwz1 := Lib.hid hgwz1
      have Hwz1 := Lib.hid hwz1
      have Hwz2 := Lib.hid hwz2
      have Hzwz1 := Lib.hid hzwz1
      have Hzwz2 := Lib.hid hzwz2
      clear hmr hall hxj hyj hxn hyn hf hr hmz hsm hgx hgwz2 hr2 hmwz1 hmwz2 hgwz1 hwz1 hwz2 hzwz1 hzwz2
      have hcall := Hcf.out
      go_wp2_with (first | ((with_reducible refine wpList_load_lit 48 (.tmp 20) ?_); refine ⟨g, off + j * 6, rfl, x.cells, Hf.out, by kernel_rfl, by kernel_rfl, ?_⟩) | ((with_reducible refine wpList_load_lit 48 (.tmp 24) ?_); refine ⟨gr, offr + j * 6, rfl, y.cells, Hr2.out, by kernel_rfl, by kernel_rfl, ?_⟩) | ((with_reducible refine wpList_store_lit 48 (.tmp 8) (.tmp 21) ?_); refine ⟨rfl, x.cells, rfl, rfl, by kernel_rfl, rfl, ?_⟩; rw [Hwz1.out]) | ((with_reducible refine wpList_store_lit 48 (.tmp 9) (.tmp 25) ?_); refine ⟨rfl, y.cells, rfl, rfl, by kernel_rfl, rfl, ?_⟩; rw [Hwz2.out]) | ((with_reducible refine wpList_load_lit 48 (.tmp 8) ?_); refine ⟨wr.heap.size, 0, rfl, x.cells, CellsAt.row Hgx.out, by kernel_rfl, by kernel_rfl, ?_⟩) | ((with_reducible refine wpList_load_lit 48 (.tmp 9) ?_); refine ⟨wz1.heap.size, 0, rfl, y.cells, CellsAt.row Hgwz2.out, by kernel_rfl, by kernel_rfl, ?_⟩) | fail)
      refine Hsm.out.mono ?_
      rintro e w3 ⟨rfl, hm3⟩
      have hm4 := Hmz.out.trans hm3 (fun _ _ h => h)
      have Hm4 := Lib.hid hm4
      clear hm4 hm3 hcall
      cases hs : Att.same x y with
      | true =>
        have Hs := Lib.hid hs
        clear hs
        go_wp2_with fail
        go_roundw
        case rel =>
          refine ⟨j + 1, by go_num, hlt, Hm4.out, fun k x' y' hk hx' hy' => ?_⟩
          rcases Nat.lt_succ_iff_lt_or_eq.1 hk with hk | rfl
          · exact Hall.out k x' y' hk hx' hy'
          · rw [Hxj.out] at hx'; rw [Hyj.out] at hy'; cases hx'; cases hy'; exact Hs.out
        case measure => simp [intOf]; omega
      | false =>
        have Hs := Lib.hid hs
        clear hs
        go_wp2
        go_ret
        exact ⟨by rw [← HR.out, attsSame_at Hxj.out Hyj.out Hs.out]; rfl, Hm4.out⟩
    · obtain rfl : j = l.length := by omega
      have Hmr := Lib.hid hmr
      have Hall := Lib.hid hall
      clear hmr hall
      go_wp2
      go_ret
      exact ⟨by rw [← HR.out, attsSame_all Hlm.out fun k x y hx' hy' => Hall.out k x y (List.getElem?_eq_some_iff.1 hx').1 hx' hy']; rfl, Hmr.out⟩

set_option maxHeartbeats 1000000 in
theorem evsame_at (w : World) (s t : ByteArray) (av bv : Value) (l m : List Att) (hv : RdSl w 6 av l.length (atts l)) (hu : RdSl w 6 bv m.length (atts m)) (hll : l.length ≤ 1000000) (hml : m.length ≤ 1000000) (hx : ∀ x ∈ l, x.v.num < 2 ^ 64) (hy : ∀ x ∈ m, x.v.num < 2 ^ 64) :
    Calls Try.prog 21 #[.agg #[.string s, av], .agg #[.string t, bv]] w fun e w' => e = .returned (.bool (s.toList == t.toList && attsSame l m)) ∧ Mod (fun _ => False) w w' := by
  obtain ⟨a, ca, rfl⟩ : ∃ a c, av = .slice a l.length c := by obtain ⟨-, a, c, h, -⟩ := hv; exact ⟨a, c, h⟩
  obtain ⟨b, cb, rfl⟩ : ∃ a c, bv = .slice a m.length c := by obtain ⟨-, a, c, h, -⟩ := hu; exact ⟨a, c, h⟩
  obtain ⟨wa, hwa⟩ : ∃ wa : World, w.alloc (.cells #[.string s, .slice a l.length ca] 40) = wa := ⟨_, rfl⟩
  have hmwa : Mod (fun _ => False) w wa := hwa ▸ (Mod.refl (fun _ => False) w).alloc _
  have hgwa := heap_alloc_new w (.cells #[.string s, .slice a l.length ca] 40)
  rw [hwa] at hgwa
  have hzwa : wa.heap.size = w.heap.size + 1 := by rw [← hwa]; simp
  obtain ⟨wb, hwb⟩ : ∃ wb : World, wa.alloc (.cells #[.string t, .slice b m.length cb] 40) = wb := ⟨_, rfl⟩
  have hmwb : Mod (fun _ => False) wa wb := hwb ▸ (Mod.refl (fun _ => False) wa).alloc _
  have hgwb := heap_alloc_new wa (.cells #[.string t, .slice b m.length cb] 40)
  rw [hwb] at hgwb
  have hzwb : wb.heap.size = wa.heap.size + 1 := by rw [← hwb]; simp
  have hmb : Mod (fun _ => False) w wb := hmwa.trans hmwb (fun _ _ h => h)
  have hgA := hmwb.heap hgwa (fun h => h)
  have c0 : wb.cell? ⟨w.heap.size, 0, none⟩ = some (.string s) := cell_of hgA rfl
  have c1 : wb.cell? ⟨w.heap.size, 1, none⟩ = some (.slice a l.length ca) := cell_of hgA rfl
  have d0 : wb.cell? ⟨wa.heap.size, 0, none⟩ = some (.string t) := cell_of hgwb rfl
  have d1 : wb.cell? ⟨wa.heap.size, 1, none⟩ = some (.slice b m.length cb) := cell_of hgwb rfl
  have heq := equal_at wb (.slice a l.length ca) (.slice b m.length cb) l m (hv.mod hmb (fun _ _ h => h)) (hu.mod hmb (fun _ _ h => h)) hll hml hx hy
  have Hwa := Lib.hid hwa
  have Hwb := Lib.hid hwb
  have Hmb := Lib.hid hmb
  have Heq := Lib.hid heq
  have Hmwa := Lib.hid hmwa
  have Hmwb := Lib.hid hmwb
  have Hgwa := Lib.hid hgwa
  have Hgwb := Lib.hid hgwb
  have Hzwa := Lib.hid hzwa
  have Hzwb := Lib.hid hzwb
  have HgA := Lib.hid hgA
  clear hwa hwb hmb heq hmwa hmwb hgwa hgwb hzwa hzwb hgA hv hu hx hy
  cases hn : s.toList == t.toList with
  | false =>
    rw [Bool.false_and]
    go_enter Try.func21, Try.ntmps21
    go_wp2_with (first | (rw [show w.alloc _ = wa from Hwa.out]) | (rw [show wa.alloc _ = wb from Hwb.out]) | fail)
    go_ret
    exact ⟨rfl, Hmb.out⟩
  | true =>
    rw [Bool.true_and]
    go_enter Try.func21, Try.ntmps21
    go_wp2_with (first | (rw [show w.alloc _ = wa from Hwa.out]) | (rw [show wa.alloc _ = wb from Hwb.out]) | fail)
    refine Heq.out.mono ?_
    rintro e w' ⟨rfl, hm⟩
    have Hm := Lib.hid (Hmb.out.trans hm (fun _ _ h => h))
    clear hm
    go_wp2
    go_ret
    exact ⟨rfl, Hm.out⟩
end Go.Proofs.Ytpfnemkfbelpcaa
