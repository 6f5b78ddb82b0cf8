/-
  What start-up lays, at any later world; value.Print, cond.Word, cond.Print.
-/
import Derived.Test.YtaenebdppkjhoaaGreatDoorZa25
import Derived.Test.YtaenebdppkjhoaaGreatDoorZa26
import Derived.Test.YtaenebdppkjhoaaGreatDoorZa15
import Derived.Test.YtaenebdppkjhoaaGreatDoorZa6
namespace Go.Proofs.YtaenebdppkjhoaaGreatDoor
set_option maxRecDepth 20000
open Go.RowKit

def wordsL : List (List UInt8) := [[61], [33, 61], [60], [60, 61], [62], [62, 61], [94], [104, 97, 115]]
/-- The tables of the library and of the program, as start-up lays them. -/
structure LaidAt (w : World) : Prop where
  num : Lays w
  prt : Lib.PrintTabsAt 11 12 13 14 Lib.goPrintTabs w
  utf : Lib.Utf8Tabs 9 10 w
  words : ∀ i s, wordsL[i]? = some s → w.cell? ⟨0, i, none⟩ = some (.string (str s))
/-- They lie so in the world in which the call began, and that part of it is as it was. -/
structure Laid (w0 w : World) : Prop where
  at0 : LaidAt w0
  n64 : 16 ≤ w0.heap.size
  below : Below w0.heap.size w0 w
theorem Laid.size {w0 w : World} (h : Laid w0 w) : w0.heap.size ≤ w.heap.size := h.below.size
theorem Laid.mod {w0 w w' : World} {F : Nat → Prop} (h : Laid w0 w) (hm : Mod F w w') (hF : ∀ k, k < w0.heap.size → ¬ F k) : Laid w0 w' :=
  ⟨h.at0, h.n64, ⟨hm.os.trans h.below.os, hm.tape.trans h.below.tape, hm.output.trans h.below.output, Nat.le_trans h.below.size hm.size, fun k hk => (hm.block k (Nat.lt_of_lt_of_le hk h.size) (hF k hk)).trans (h.below.block k hk)⟩⟩
theorem Laid.mod0 {w0 w w' : World} (h : Laid w0 w) (hm : Mod (fun _ => False) w w') : Laid w0 w' := h.mod hm fun _ _ h => h
theorem Laid.at_ {w0 w : World} (h : Laid w0 w) : LaidAt w := by
  have hm : Mod (fun k => w0.heap.size ≤ k) w0 w := Mod.of_below h.below
  have h64 := h.n64
  exact ⟨h.at0.num.mod hm (fun g hg h => by omega), printTabs_below h.at0.prt h.below, Utf8Tabs_below h.at0.utf h.below, fun i s hs => hm.cell (h.at0.words i s hs) (fun h => by
    have : w0.heap.size ≤ 0 := h
    omega)⟩
theorem below_mod {w w' : World} (h : Below w.heap.size w w') : Mod (fun _ => False) w w' := ⟨h.os, h.tape, h.output, h.size, fun k hk _ => h.block k hk⟩
theorem grow_mod (w : World) (os : Array Obj) : Mod (fun _ => False) w (Go.Sort.grow w os) := by
  refine ⟨rfl, rfl, rfl, ?_, fun k hk _ => ?_⟩
  · show _ ≤ (w.heap ++ os).size
    simp
  · show (w.heap ++ os)[k]? = _
    rw [Array.getElem?_append, if_pos hk]

theorem str_add (a b : List UInt8) : str (a ++ b) = str a ++ str b := by
  apply ByteArray.ext
  simp [str, ByteArray.data_append]
/-- Values that are in range. -/
structure V.fits (v : V) : Prop where
  int : -9223372036854775808 ≤ v.int ∧ v.int ≤ 9223372036854775807
  num : v.num < 2 ^ 64
  text : v.text.size ≤ 1000000

theorem contains_spec (l : List UInt8) : Lib.containsAny l [46, 101, 73, 78] = spec l := by
  unfold Lib.containsAny spec
  induction l with
  | nil => rfl
  | cons b l ih =>
    rw [List.any_cons, Lib.indexAny, ← ih]
    have hb : ([46, 101, 73, 78] : List UInt8).contains b = (b == 46 || b == 101 || b == 73 || b == 78) := by
      simp only [List.contains_cons, List.contains_nil, Bool.or_false, Bool.or_assoc]
    rw [hb]
    cases hc : (b == 46 || b == 101 || b == 73 || b == 78) with
    | true => simp
    | false =>
      simp only [Bool.false_eq_true, if_false, Bool.false_or]
      have := Lib.indexAny_ge [46, 101, 73, 78] l
      by_cases h1 : Lib.indexAny l [46, 101, 73, 78] = -1
      · rw [h1]; rfl
      · have : (Lib.indexAny l [46, 101, 73, 78] == -1) = false := by rw [beq_eq_false_iff_ne]; exact h1
        rw [this]
        simp only [Bool.false_eq_true, if_false, decide_eq_decide]
        omega
theorem fltT_chars (b : Nat) : (∀ c ∈ fltT b, isTok c) ∧ (fltT b).length ≤ 1000 := by
  have e : numT b = fltT b ∨ numT b = fltT b ++ [46, 48] := by unfold numT; split; exact .inl rfl; exact .inr rfl
  have ht := (numT_tok b).2.1
  constructor
  · intro c hc
    rcases e with e | e
    · exact ht c (by rw [e]; exact hc)
    · exact ht c (by rw [e]; exact List.mem_append_left _ hc)
  · rcases way_of b with ⟨_, _, h⟩ | ⟨_, _, _, h⟩ | ⟨_, _, _, h⟩ | ⟨_, ds, dp, hc, hz, h0, hr, hv, h, hlen⟩
    · rw [h]; decide
    · rw [h]; decide
    · rw [h]; decide
    · rw [h]
      unfold efgT sgnT frac expT exps zeros
      repeat' split
      all_goals simp only [List.length_append, List.length_cons, List.length_nil, List.length_take, List.length_drop, List.length_replicate]
      all_goals omega

set_option maxHeartbeats 4000000 in
/-- value.Print. -/
theorem vprint_at (w0 w : World) (hl : Laid w0 w) (v : V) (hv : v.fits) : Calls Tryz.prog 105 #[.agg v.cells.toArray] w fun e w' => e = .returned (.string (str v.prt)) ∧ Mod (fun _ => False) w w' := by
  have hla := hl.at_
  obtain ⟨kind, int, num, text, yes⟩ := v
  have h1 := hv.int
  have h2 := hv.num
  have h3 := hv.text
  simp only at h1 h2 h3
  unfold V.prt V.cells
  simp only
  obtain ⟨wa, hwa⟩ : ∃ wa : World, w.alloc (.cells #[.int .i64 kind, .int .i64 int, .float .f64 num, .string text, .bool yes] 68) = wa := ⟨_, rfl⟩
  have hmwa : Mod (fun _ => False) w wa := hwa ▸ (Mod.refl (fun _ => False) w).alloc _
  have hgwa := heap_alloc_new w (.cells #[.int .i64 kind, .int .i64 int, .float .f64 num, .string text, .bool yes] 68)
  rw [hwa] at hgwa
  have hzwa : wa.heap.size = w.heap.size + 1 := by rw [← hwa]; simp
  have hlw := hl.mod0 hmwa
  have c0 : wa.cell? ⟨w.heap.size, 0, none⟩ = some (.int .i64 kind) := cell_of hgwa rfl
  have c1 : wa.cell? ⟨w.heap.size, 1, none⟩ = some (.int .i64 int) := cell_of hgwa rfl
  have c2 : wa.cell? ⟨w.heap.size, 2, none⟩ = some (.float .f64 num) := cell_of hgwa rfl
  have c3 : wa.cell? ⟨w.heap.size, 3, none⟩ = some (.string text) := cell_of hgwa rfl
  have c4 : wa.cell? ⟨w.heap.size, 4, none⟩ = some (.bool yes) := cell_of hgwa rfl
  by_cases k0 : kind = 0
  · rw [if_pos k0]
    subst k0
    have hfi := Tryz.strconv_FormatInt_10 int h1.1 h1.2 wa hlw.at_.num.u10
    obtain ⟨s, hs⟩ : ∃ s, Lib.itoa int = s := ⟨_, rfl⟩
    rw [hs] at hfi ⊢
    have Hfi := Lib.hid hfi
    have Hs := Lib.hid hs
    have Hwa := Lib.hid hwa
    have Hlw := Lib.hid hlw
    have Hla := Lib.hid hla
    have Hl := Lib.hid hl
    have Hgwa := Lib.hid hgwa
    have Hmwa := Lib.hid hmwa
    clear hfi hs hwa hlw hla hl hgwa hmwa hv
    go_enter Tryz.func105, Tryz.ntmps105
    go_wp2_with (first | (rw [show w.alloc _ = wa from Hwa.out]) | fail)
    refine Hfi.out.mono ?_
    rintro e w2 ⟨rfl, k, os, rfl⟩
    have hm2 := Lib.hid (Hmwa.out.trans (((Mod.refl (fun _ => False) wa).drewN k).trans (grow_mod (wa.drewN k) os) (fun _ _ h => h)) (fun _ _ h => h))
    go_wp2
    go_ret
    exact ⟨rfl, hm2.out⟩
  rw [if_neg k0]
  have d0 : (kind == 0) = false := by rw [beq_eq_false_iff_ne]; exact k0
  by_cases k1 : kind = 1
  · rw [if_pos k1]
    subst k1
    have hca := fun wx => canon_at num wx
    have hff := fun (wx : World) (hx : Laid w0 wx) => fmtp_float_at wx hx.at_.num (by have := hx.n64; have := hx.size; omega) (canonB num) (canonB_lt h2)
    have hch := fltT_chars (canonB num)
    have hsz : (str (fltT (canonB num))).size ≤ 1000 := by rw [str_size]; exact hch.2
    have hco := fun (wx : World) => Tryz.strings_ContainsAny_laid (str (fltT (canonB num))) ⟨#[46, 101, 73, 78]⟩ wx (by omega) (by decide)
      (fun j b hb => by
        have := hch.1 b (List.mem_of_getElem? (by simpa [str] using hb))
        have := this.2
        omega) (fun j b hb => by
        have hm : b ∈ ([46, 101, 73, 78] : List UInt8) := List.mem_of_getElem? hb
        simp only [List.mem_cons, List.not_mem_nil, or_false] at hm
        rcases hm with rfl | rfl | rfl | rfl <;> decide)
    have hsp : Lib.containsAny (str (fltT (canonB num))).data.toList (ByteArray.mk #[46, 101, 73, 78]).data.toList = spec (fltT (canonB num)) := by
      rw [← contains_spec]; simp [str]
    rw [hsp] at hco
    obtain ⟨cb, hcb⟩ : ∃ cb, canonB num = cb := ⟨_, rfl⟩
    unfold numT
    rw [hcb] at hca hff hco hsz ⊢
    obtain ⟨ft, hft⟩ : ∃ ft, fltT cb = ft := ⟨_, rfl⟩
    rw [hft] at hff hco hsz ⊢
    obtain ⟨fs, hfs⟩ : ∃ fs, str ft = fs := ⟨_, rfl⟩
    rw [hfs] at hff hco hsz
    cases hspf : spec ft with
    | true =>
      rw [hspf] at hco
      rw [if_pos rfl, hfs]
      have Hca := Lib.hid hca
      have Hff := Lib.hid hff
      have Hco := Lib.hid hco
      have Hcb := Lib.hid hcb
      have Hft := Lib.hid hft
      have Hfs := Lib.hid hfs
      have Hspf := Lib.hid hspf
      have Hwa := Lib.hid hwa
      have Hlw := Lib.hid hlw
      have Hla := Lib.hid hla
      have Hl := Lib.hid hl
      have Hgwa := Lib.hid hgwa
      have Hmwa := Lib.hid hmwa
      have Hch := Lib.hid hch
      have Hsp := Lib.hid hsp
      clear hca hff hco hcb hft hfs hspf hwa hlw hla hl hgwa hmwa hch hsp hv
      go_enter Tryz.func105, Tryz.ntmps105
      go_wp2_with (first | (rw [show w.alloc _ = wa from Hwa.out]) | fail)
      refine (Hca.out _).mono ?_
      rintro e w2 ⟨rfl, rfl⟩
      go_wp2_with fail
      refine (Hff.out _ Hlw.out).mono ?_
      rintro e w3 ⟨rfl, hm3⟩
      have Hm3 := Lib.hid hm3
      clear hm3
      go_wp2_with fail
      refine (Hco.out _).mono ?_
      rintro e w4 ⟨rfl, hb4⟩
      have hm4 := Lib.hid (below_mod hb4)
      clear hb4
      go_wp2
      go_ret
      exact ⟨rfl, (Hmwa.out.trans Hm3.out (fun _ _ h => h)).trans hm4.out (fun _ _ h => h)⟩
    | false =>
      rw [hspf] at hco
      rw [if_neg (by decide)]
      have hap : (Value.string (str (ft ++ [46, 48]))) = .string (fs ++ ⟨#[46, 48]⟩) := by
        rw [← hfs, str_add]
        rfl
      rw [hap]
      have Hca := Lib.hid hca
      have Hff := Lib.hid hff
      have Hco := Lib.hid hco
      have Hcb := Lib.hid hcb
      have Hft := Lib.hid hft
      have Hfs := Lib.hid hfs
      have Hspf := Lib.hid hspf
      have Hwa := Lib.hid hwa
      have Hlw := Lib.hid hlw
      have Hla := Lib.hid hla
      have Hl := Lib.hid hl
      have Hgwa := Lib.hid hgwa
      have Hmwa := Lib.hid hmwa
      have Hch := Lib.hid hch
      have Hsp := Lib.hid hsp
      have Hap := Lib.hid hap
      clear hca hff hco hcb hft hfs hspf hwa hlw hla hl hgwa hmwa hch hsp hap hv
      go_enter Tryz.func105, Tryz.ntmps105
      go_wp2_with (first | (rw [show w.alloc _ = wa from Hwa.out]) | fail)
      refine (Hca.out _).mono ?_
      rintro e w2 ⟨rfl, rfl⟩
      go_wp2_with fail
      refine (Hff.out _ Hlw.out).mono ?_
      rintro e w3 ⟨rfl, hm3⟩
      have Hm3 := Lib.hid hm3
      clear hm3
      go_wp2_with fail
      refine (Hco.out _).mono ?_
      rintro e w4 ⟨rfl, hb4⟩
      have hm4 := Lib.hid (below_mod hb4)
      clear hb4
      go_wp2
      go_ret
      exact ⟨rfl, (Hmwa.out.trans Hm3.out (fun _ _ h => h)).trans hm4.out (fun _ _ h => h)⟩
  rw [if_neg k1]
  have d1 : (kind == 1) = false := by rw [beq_eq_false_iff_ne]; exact k1
  by_cases k2 : kind = 2
  · rw [if_pos k2]
    subst k2
    have hqu := Tryz.strconv_Quote Lib.goPrintTabs text wa (by omega) hlw.at_.prt hlw.at_.utf
    have hq : strOfNums (Lib.quoteZ Lib.goPrintTabs text) = str (quoT Lib.goPrintTabs text) := rfl
    rw [hq] at hqu
    obtain ⟨s, hs⟩ : ∃ s, str (quoT Lib.goPrintTabs text) = s := ⟨_, rfl⟩
    rw [hs] at hqu ⊢
    have Hqu := Lib.hid hqu
    have Hs := Lib.hid hs
    have Hwa := Lib.hid hwa
    have Hlw := Lib.hid hlw
    have Hla := Lib.hid hla
    have Hl := Lib.hid hl
    have Hgwa := Lib.hid hgwa
    have Hmwa := Lib.hid hmwa
    have Hq := Lib.hid hq
    clear hqu hs hwa hlw hla hl hgwa hmwa hq hv
    go_enter Tryz.func105, Tryz.ntmps105
    go_wp2_with (first | (rw [show w.alloc _ = wa from Hwa.out]) | fail)
    refine Hqu.out.mono ?_
    rintro e w2 ⟨rfl, hb2⟩
    have hm2 := Lib.hid (Hmwa.out.trans (below_mod hb2) (fun _ _ h => h))
    clear hb2
    go_wp2
    go_ret
    exact ⟨rfl, hm2.out⟩
  rw [if_neg k2]
  have d2 : (kind == 2) = false := by rw [beq_eq_false_iff_ne]; exact k2
  have Hwa := Lib.hid hwa
  have Hlw := Lib.hid hlw
  have Hla := Lib.hid hla
  have Hl := Lib.hid hl
  have Hgwa := Lib.hid hgwa
  have Hmwa := Lib.hid hmwa
  clear hwa hlw hla hl hgwa hmwa hv k0 k1 k2
  cases yes
  · go_enter Tryz.func105, Tryz.ntmps105
    go_wp2_with (first | (rw [show w.alloc _ = wa from Hwa.out]) | fail)
    go_ret
    exact ⟨rfl, Hmwa.out⟩
  · go_enter Tryz.func105, Tryz.ntmps105
    go_wp2_with (first | (rw [show w.alloc _ = wa from Hwa.out]) | fail)
    go_ret
    exact ⟨rfl, Hmwa.out⟩
end Go.Proofs.YtaenebdppkjhoaaGreatDoor
