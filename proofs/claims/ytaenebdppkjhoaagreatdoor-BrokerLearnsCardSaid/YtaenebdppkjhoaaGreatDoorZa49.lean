/-
  Rules that came in, as the walks of chapter 17 want them.
  From what a row lists of the package-level variables to what the walks ask.
-/
import Derived.Test.YtaenebdppkjhoaaGreatDoorZa13
import Derived.Test.YtaenebdppkjhoaaGreatDoorZa48
import Derived.Test.YtaenebdppkjhoaaGreatDoorZa27
import Derived.Test.YtaenebdppkjhoaaGreatDoorRows
import Derived.PinnedBridge
import Derived.Lib.LaidU8T
import Derived.Lib.LaidTab
import Derived.Lib.LaidPrint
namespace Go.Proofs.YtaenebdppkjhoaaGreatDoor
set_option maxRecDepth 20000
open Go.RowKit

theorem reach47 : reachBytes ≤ 140737488355328 := by decide
theorem Ru.inn.ok {W : World} {r : Ru} (h : r.inn W) : r.ok W := by
  have hr := reach47
  have h1 := h.who
  have h2 := h.name
  have h3 := h.fil.sc
  refine ⟨h.fil.rd, ?_, by omega, by omega, by omega, fun c hc => ?_⟩
  · exact le63 h.fil.len
  · have h4 := (h.fil.cs c hc).name
    have h5 := (h.fil.cs c hc).v.text
    omega
theorem Ru.inn.rin {W : World} {r : Ru} (h : r.inn W) : RuIn r := by
  have hr := reach47
  refine ⟨Nat.le_trans h.who hr, Nat.le_trans h.name hr, Nat.le_trans h.fil.sc hr, fun c hc => ?_⟩
  have h4 := h.fil.cs c hc
  exact ⟨⟨Nat.le_trans h4.name hr, Nat.le_trans h4.v.text hr⟩, h4.v.int, h4.v.num⟩
theorem laid_refl {W : World} (hL : LaidAt W) (hN : 16 ≤ W.heap.size) : Laid W W := ⟨hL, hN, ⟨rfl, rfl, rfl, Nat.le_refl _, fun _ _ => rfl⟩⟩
end Go.Proofs.YtaenebdppkjhoaaGreatDoor

namespace Go.Proofs.YtaenebdppkjhoaaGreatDoor
set_option maxRecDepth 20000
open Go.RowKit Go.Lib

theorem and2 {a b : Bool} (h : a = true) (k : b = true) : (a && b) = true := by subst h; subst k; rfl
theorem u10_of {w : World} (h : VarReads Tryz.prog w "internal/strconv.uint64pow10" Rows.laid_internal_strconv_uint64pow10) : Lib.TabIs Tryz.prog w "internal/strconv.uint64pow10" .u64 Lib.pow10Tab := by
  obtain ⟨g, t, cs, fuel, p, hg, hty, hvar, hd⟩ := h
  obtain rfl := Option.some.inj ((show Tryz.prog.globalNamed "internal/strconv.uint64pow10" = some 3 by kernel_rfl).symm.trans hg)
  obtain rfl := Option.some.inj ((show (Tryz.prog.globals[(3 : Nat)]?).map (·.type) = some 280 by kernel_rfl).symm.trans hty)
  have e : (Rows.laid_internal_strconv_uint64pow10 : DataW Unit) = tabData .u64 Lib.pow10Tab := by kernel_rfl
  rw [e] at hd
  unfold TabIs
  rw [hvar, ← cells_of_tab Tryz.underlying280 Tryz.underlying221 (by kernel_rfl) (by kernel_rfl) hd]
theorem p10_len : Go.Pinned.pow10Rows.length = 696 := by kernel_rfl
theorem p10_of {w : World} (h : VarReads Tryz.prog w "internal/strconv.pow10Tab" Rows.laid_internal_strconv_pow10Tab) :
    ∀ i, i < 696 → w.cell? ⟨7, i * 2, none⟩ = some (.int .u64 ((pw i).1 : Int)) ∧ w.cell? ⟨7, i * 2 + 1, none⟩ = some (.int .u64 ((pw i).2 : Int)) := by
  obtain ⟨g, t, cs, fuel, p, hg, hty, hvar, hd⟩ := h
  obtain rfl := Option.some.inj ((show Tryz.prog.globalNamed "internal/strconv.pow10Tab" = some 7 by kernel_rfl).symm.trans hg)
  obtain rfl := Option.some.inj ((show (Tryz.prog.globals[(7 : Nat)]?).map (·.type) = some 322 by kernel_rfl).symm.trans hty)
  intro i hi
  obtain ⟨fuel', d, q, hdi, he⟩ := array_elem (ds := Go.Pinned.pow10Rows.map fun x => .agg [.lit (.int .u64 x.1), .lit (.int .u64 x.2)]) Tryz.underlying322 hd i hi
  have hpi : Go.Pinned.pow10Rows[i]? = some (pw i) := by
    have hl : i < Go.Pinned.pow10Rows.length := by rw [p10_len]; exact hi
    unfold pw
    rw [List.getD_eq_getElem?_getD, List.getElem?_eq_getElem hl]
    rfl
  rw [List.getElem?_map, hpi] at hdi
  obtain rfl := (Option.some.inj hdi).symm
  have hc2 : Tryz.prog.cellsOf 321 = 2 := by kernel_rfl
  have hc1 : Tryz.prog.cellsOf 221 = 1 := by kernel_rfl
  rw [hc2] at he
  have hcs := ints_of_struct (zs := [((pw i).1 : Int), ((pw i).2 : Int)]) Tryz.underlying321 (fun j f hj => by
    match j, hj with
    | 0, hj => simp at hj; subst hj; exact ⟨Tryz.underlying221, rfl, hc1⟩
    | 1, hj => simp at hj; subst hj; exact ⟨Tryz.underlying221, rfl, hc1⟩
    | j + 2, hj => simp at hj) (by rw [hc2]; rfl) he
  have e0 := congrArg (·[0]?) hcs
  have e1 := congrArg (·[1]?) hcs
  simp only [List.getElem?_take, List.getElem?_drop] at e0 e1
  constructor
  · rw [World.var?_cell hg hvar (i * 2), ← Array.getElem?_toList]
    simpa using e0
  · rw [World.var?_cell hg hvar (i * 2 + 1), ← Array.getElem?_toList]
    simpa using e1
theorem words_of {w : World} (h : VarReads Tryz.prog w "gazette/cond.words" Rows.laid_gazette_cond_words) : ∀ i s, wordsL[i]? = some s → w.cell? ⟨0, i, none⟩ = some (.string (str s)) := by
  obtain ⟨g, t, cs, fuel, p, hg, hty, hvar, hd⟩ := h
  obtain rfl := Option.some.inj ((show Tryz.prog.globalNamed "gazette/cond.words" = some 0 by kernel_rfl).symm.trans hg)
  obtain rfl := Option.some.inj ((show (Tryz.prog.globals[(0 : Nat)]?).map (·.type) = some 208 by kernel_rfl).symm.trans hty)
  have e : (Rows.laid_gazette_cond_words : DataW Unit) = .agg (wordsL.map fun s => .lit (.string s)) := rfl
  rw [e] at hd
  intro i s hs
  have hi : i < 8 := (List.getElem?_eq_some_iff.1 hs).1
  obtain ⟨fuel', d, q, hdi, he⟩ := array_elem (ds := wordsL.map fun s => .lit (.string s)) Tryz.underlying208 hd i hi
  rw [List.getElem?_map, hs] at hdi
  obtain rfl := (Option.some.inj hdi).symm
  obtain ⟨z, e1, e2, -⟩ := DataW.trod_string Tryz.underlying9 he
  have hc1 : Tryz.prog.cellsOf 9 = 1 := by kernel_rfl
  rw [hc1] at e1
  have e3 := congrArg (·[0]?) e1
  simp only [List.getElem?_take, List.getElem?_drop] at e3
  rw [World.var?_cell hg hvar i, ← Array.getElem?_toList]
  have e4 : z = str s := by
    have h1 := congrArg Prod.fst e2
    simp only [DataW.lit.injEq, Lit.string.injEq] at h1
    apply ByteArray.ext
    apply Array.toList_inj.1
    simpa [str] using h1.symm
  simpa [e4] using e3
theorem utf_of {w : World} (h3 : VarReads Tryz.prog w "unicode/utf8.first" Rows.laid_unicode_utf8_first) (h4 : VarReads Tryz.prog w "unicode/utf8.acceptRanges" Rows.laid_unicode_utf8_acceptRanges) : Lib.Utf8Tabs 9 10 w := by
  have e3 : (Rows.laid_unicode_utf8_first : DataW Unit) = tabData .u8 firstTab := Pinned.utf8First_eq
  have e4 : (Rows.laid_unicode_utf8_acceptRanges : DataW Unit) = acceptData := by kernel_rfl
  rw [e3] at h3
  rw [e4] at h4
  have hc5 : Tryz.prog.cellsOf 5 = 1 := by kernel_rfl
  refine ⟨fun c hc => ?_, fun i hi => ?_⟩
  · obtain ⟨g, t, cs, fuel, p, hg, hty, hvar, hd⟩ := h3
    obtain rfl := Option.some.inj ((show Tryz.prog.globalNamed "unicode/utf8.first" = some 9 by kernel_rfl).symm.trans hg)
    obtain rfl := Option.some.inj ((show (Tryz.prog.globals[(9 : Nat)]?).map (·.type) = some 331 by kernel_rfl).symm.trans hty)
    have hcs := cells_of_tab Tryz.underlying331 Tryz.underlying5 (by kernel_rfl) (by kernel_rfl) hd
    have := World.var?_cell hg hvar c
    rw [this, ← Array.getElem?_toList, hcs]
    simp [firstTab, hc]
  · obtain ⟨g, t, cs, fuel, p, hg, hty, hvar, hd⟩ := h4
    obtain rfl := Option.some.inj ((show Tryz.prog.globalNamed "unicode/utf8.acceptRanges" = some 10 by kernel_rfl).symm.trans hg)
    obtain rfl := Option.some.inj ((show (Tryz.prog.globals[(10 : Nat)]?).map (·.type) = some 334 by kernel_rfl).symm.trans hty)
    obtain ⟨fuel', d, q, hdi, he⟩ := array_elem Tryz.underlying334 hd i hi
    simp only [List.getElem?_map, List.getElem?_range hi, Option.map_some, Option.some.injEq] at hdi
    subst hdi
    have hc2 : Tryz.prog.cellsOf 333 = 2 := by kernel_rfl
    rw [hc2] at he
    have hcs := ints_of_struct Tryz.underlying333 (fun j f hj => by
      match j, hj with
      | 0, hj => simp at hj; subst hj; exact ⟨Tryz.underlying5, rfl, hc5⟩
      | 1, hj => simp at hj; subst hj; exact ⟨Tryz.underlying5, rfl, hc5⟩
      | j + 2, hj => simp at hj) (by rw [hc2]; rfl) he
    have e0 := congrArg (·[0]?) hcs
    have e1 := congrArg (·[1]?) hcs
    simp only [List.getElem?_take, List.getElem?_drop] at e0 e1
    constructor
    · rw [World.var?_cell hg hvar (2 * i), ← Array.getElem?_toList]
      simpa [Nat.mul_comm] using e0
    · rw [World.var?_cell hg hvar (2 * i + 1), ← Array.getElem?_toList]
      simpa [Nat.mul_comm] using e1
theorem prt_of {w : World} (h20 : VarReads Tryz.prog w "strconv.isPrint16" Rows.laid_strconv_isPrint16) (h21 : VarReads Tryz.prog w "strconv.isNotPrint16" Rows.laid_strconv_isNotPrint16)
    (h22 : VarReads Tryz.prog w "strconv.isPrint32" Rows.laid_strconv_isPrint32) (h23 : VarReads Tryz.prog w "strconv.isNotPrint32" Rows.laid_strconv_isNotPrint32) :
    Lib.PrintTabsAt 11 12 13 14 goPrintTabs w := by
  have e1 : (Rows.laid_strconv_isPrint16 : DataW Unit) = sliceData .u16 goPrintTabs.p16 := Pinned.isPrint16_eq
  have e2 : (Rows.laid_strconv_isNotPrint16 : DataW Unit) = sliceData .u16 goPrintTabs.n16 := Pinned.isNotPrint16_eq
  have e3 : (Rows.laid_strconv_isPrint32 : DataW Unit) = sliceData .u32 goPrintTabs.p32 := Pinned.isPrint32_eq
  have e4 : (Rows.laid_strconv_isNotPrint32 : DataW Unit) = sliceData .u16 goPrintTabs.n32 := Pinned.isNotPrint32_eq
  rw [e1] at h20
  rw [e2] at h21
  rw [e3] at h22
  rw [e4] at h23
  have hc16 : Tryz.prog.cellsOf 335 = 1 := by kernel_rfl
  have hc32 : Tryz.prog.cellsOf 231 = 1 := by kernel_rfl
  refine ⟨tabSlice_of_reads (by kernel_rfl) (by kernel_rfl) Tryz.underlying336 Tryz.underlying335 hc16 (by decide) h20, tabSlice_of_reads (by kernel_rfl) (by kernel_rfl) Tryz.underlying336 Tryz.underlying335 hc16 (by decide) h21,
    tabSlice_of_reads (by kernel_rfl) (by kernel_rfl) Tryz.underlying338 Tryz.underlying231 hc32 (by decide) h22, tabSlice_of_reads (by kernel_rfl) (by kernel_rfl) Tryz.underlying336 Tryz.underlying335 hc16 (by decide) h23, ?_, ?_, ?_⟩ <;> decide
/-- What the rows of this seat list. -/
def laidL : List (String × DataW Unit) := Rows.brokerLearnsRow.laid
theorem laid_of {w : World} (h : laidMet Tryz.prog laidL w) : LaidAt w where
  num := ⟨u10_of (laidMet.reads h (List.mem_of_getElem? (i := 3) rfl)), p10_of (laidMet.reads h (List.mem_of_getElem? (i := 7) rfl))⟩
  prt := prt_of (laidMet.reads h (List.mem_of_getElem? (i := 11) rfl)) (laidMet.reads h (List.mem_of_getElem? (i := 9) rfl)) (laidMet.reads h (List.mem_of_getElem? (i := 12) rfl)) (laidMet.reads h (List.mem_of_getElem? (i := 10) rfl))
  utf := utf_of (laidMet.reads h (List.mem_of_getElem? (i := 13) rfl)) (laidMet.reads h (List.mem_of_getElem? (i := 4) rfl))
  words := words_of (laidMet.reads h (List.mem_of_getElem? (i := 5) rfl))
theorem laid_size {w : World} (h : laidMet Tryz.prog laidL w) : 16 ≤ w.heap.size := by
  obtain ⟨g, t, cs, fuel, p, hg, hty, hvar, hd⟩ := laidMet.reads h (List.mem_of_getElem? (i := 8) rfl)
  obtain rfl := Option.some.inj ((show Tryz.prog.globalNamed "strconv.isGraphic" = some 15 by kernel_rfl).symm.trans hg)
  unfold World.var? at hvar
  rw [hg] at hvar
  simp only [Option.bind_some] at hvar
  cases hb : w.heap[(15 : Nat)]? with
  | none => rw [hb] at hvar; cases hvar
  | some o =>
    have := (Array.getElem?_eq_some_iff.1 hb).1
    omega
end Go.Proofs.YtaenebdppkjhoaaGreatDoor
