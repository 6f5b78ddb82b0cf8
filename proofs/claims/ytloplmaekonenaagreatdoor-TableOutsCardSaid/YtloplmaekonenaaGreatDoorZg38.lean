/-
  The document's answer for filters: Covers.
  Masks; what covers what; the laws' tenant and principal.
  Arguments that are slices of rules, pairs of ints, filters, opened.
  An argument that is an event, opened.
  Arguments that are filters, opened.
  Plain: what all attributes have, those of a new event have.
-/
import Derived.Test.YtloplmaekonenaaGreatDoorZg31
import Derived.Test.YtloplmaekonenaaGreatDoorZg35
import Derived.Test.YtloplmaekonenaaGreatDoorZg18
import Derived.Test.YtloplmaekonenaaGreatDoorZg3
import Derived.Test.YtloplmaekonenaaGreatDoorZg19
import Derived.Test.YtloplmaekonenaaGreatDoorZg33
import Derived.Test.YtloplmaekonenaaGreatDoorZg34
import Derived.Test.YtloplmaekonenaaGreatDoorZg10
import Derived.Test.YtloplmaekonenaaGreatDoorZg1
import Derived.Test.YtloplmaekonenaaGreatDoorZg37
namespace Go.Proofs.YtloplmaekonenaaGreatDoor
set_option maxRecDepth 20000
open Go.RowKit
attribute [local go_sem ↓] run_load_cnd

set_option maxRecDepth 20000 in
set_option maxHeartbeats 4000000 in
theorem rcovers_at (w : World) (sc : ByteArray) (cv : Value) (l : List Cnd) (hv : RdSl w 7 cv l.length (cnds l)) (hll : l.length ≤ 1000000) (hsc : sc.size ≤ 9223372036854775807) (hlt0 : ∀ c ∈ l, c.v.text.size ≤ 9223372036854775807)
    (gs : ByteArray) (gv : Value) (m : List Cnd) (hg : RdSl w 7 gv m.length (cnds m)) (hml : m.length ≤ 1000000) (hgs : gs.size ≤ 9223372036854775807) (hmt0 : ∀ c ∈ m, c.v.text.size ≤ 9223372036854775807) :
    Calls Tryz.prog 33 #[.agg #[.string sc, cv], .agg #[.string gs, gv]] w fun e w' => e = .returned (.bool (m.any Cnd.voidB || (l.all (fun c => m.any fun d => rimpB d c) && underB gs sc))) ∧ Mod (fun _ => False) w w' := by
  obtain ⟨a, cap, rfl, hcap⟩ : ∃ a c, cv = .slice a l.length c ∧ l.length ≤ c := by obtain ⟨-, a, c, h, h2, -⟩ := hv; exact ⟨a, c, h, h2⟩
  obtain ⟨ga, gcap, rfl, hgcap⟩ : ∃ a c, gv = .slice a m.length c ∧ m.length ≤ c := by obtain ⟨-, a, c, h, h2, -⟩ := hg; exact ⟨a, c, h, h2⟩
  have hll' : (l.length : Int) ≤ 1000000 := by omega
  have hml' : (m.length : Int) ≤ 1000000 := by omega
  obtain ⟨wa, hwa⟩ : ∃ wa : World, w.alloc (.cells #[.string sc, .slice a l.length cap] 29) = wa := ⟨_, rfl⟩
  have hmwa : Mod (fun _ => False) w wa := hwa ▸ (Mod.refl (fun _ => False) w).alloc _
  have hgwa := heap_alloc_new w (.cells #[.string sc, .slice a l.length cap] 29)
  rw [hwa] at hgwa
  have hzwa : wa.heap.size = w.heap.size + 1 := by rw [← hwa]; simp
  obtain ⟨wb, hwb⟩ : ∃ wb : World, wa.alloc (.cells #[.string gs, .slice ga m.length gcap] 29) = wb := ⟨_, rfl⟩
  have hmwb : Mod (fun _ => False) wa wb := hwb ▸ (Mod.refl (fun _ => False) wa).alloc _
  have hgwb := heap_alloc_new wa (.cells #[.string gs, .slice ga m.length gcap] 29)
  rw [hwb] at hgwb
  have hzwb : wb.heap.size = wa.heap.size + 1 := by rw [← hwb]; simp
  have hmb := hmwa.trans hmwb (fun _ _ h => h)
  have hF := hmwb.heap hgwa (fun h => h)
  obtain ⟨R, hR⟩ : ∃ R, (m.any Cnd.voidB || (l.all (fun c => m.any fun d => rimpB d c) && underB gs sc)) = R := ⟨_, rfl⟩
  rw [hR]
  have hqz : w.heap.size < wa.heap.size := by omega
  have Hv := Lib.hid hv
  have Hg := Lib.hid hg
  have Hlt0 := Lib.hid hlt0
  have Hmt0 := Lib.hid hmt0
  have Hwa := Lib.hid hwa
  have Hwb := Lib.hid hwb
  have Hmb := Lib.hid hmb
  have HF := Lib.hid hF
  have Hgwb := Lib.hid hgwb
  have HR := Lib.hid hR
  have Hsc := Lib.hid hsc
  have Hgs := Lib.hid hgs
  clear hv hg hlt0 hmt0 hwa hwb hmb hF hgwb hR hsc hgs hmwa hmwb hgwa hzwa hzwb hll hml
  go_enter Tryz.func33, Tryz.ntmps33
  go_wp2_with (first | (rw [show w.alloc _ = wa from Hwa.out]) | (rw [show wa.alloc _ = wb from Hwb.out]) | fail)
  go_loopw [5] (fun i wr => ∃ j : Nat, i = .int .i64 j ∧ j ≤ m.length ∧ Mod (fun _ => False) wb wr ∧ (∀ (k : Nat) (x : Cnd), k < j → m[k]? = some x → x.voidB = false)) (fun i _ => m.length - (intOf i).toNat)
  case atStart => exact ⟨0, rfl, Nat.zero_le _, Mod.refl _ _, fun k x hk => by omega⟩
  case round =>
    obtain ⟨wo, rfl⟩ : ∃ wo : World, wo = wr := ⟨_, rfl⟩
    obtain ⟨i, rfl, hi, hmr, hall⟩ := hrel
    have hGr := hmr.heap Hgwb.out (fun h => h)
    have g1 : wo.cell? ⟨wa.heap.size, 1, none⟩ = some (.slice ga m.length gcap) := cell_of hGr rfl
    by_cases hlt : i < m.length
    · have hlt' : (i : Int) < m.length := by omega
      obtain ⟨d, hdi⟩ : ∃ x, m[i]? = some x := ⟨_, List.getElem?_eq_getElem hlt⟩
      have hdm := List.mem_of_getElem? hdi
      have hm0r := Hmb.out.trans hmr (fun _ _ h => h)
      obtain ⟨g, off, rfl, hdc⟩ : ∃ g off, ga = some ⟨g, off, none⟩ ∧ CellsAt wo g (off + i * 7) d.cells := rd_cnd (Hg.out.mod hm0r (fun _ _ h => h)) hdi
      have hvd := rcvoid_at d wo
      have Hmr := Lib.hid hmr
      have Hall := Lib.hid hall
      have Hdi := Lib.hid hdi
      have Hdm := Lib.hid hdm
      have Hdc := Lib.hid hdc
      have Hvd := Lib.hid hvd
      have Hm0r := Lib.hid hm0r
      clear hmr hall hdi hdm hdc hvd hm0r hGr
      go_wp2_with (first | ((with_reducible refine wpList_load_lit 81 (.tmp 19) ?_); refine ⟨g, off + i * 7, rfl, d.cells, Hdc.out, by kernel_rfl, by kernel_rfl, ?_⟩) | fail)
      refine Hvd.out.mono ?_
      rintro e w3 ⟨rfl, hm3⟩
      have hm3 := Hmr.out.trans hm3 (fun _ _ h => h)
      have HmR := Lib.hid hm3
      clear hm3 g1
      cases hs : d.voidB with
      | true =>
        have Hs := Lib.hid hs
        clear hs
        go_wp2
        go_ret
        exact ⟨ret_bool (by rw [← HR.out, List.any_eq_true.2 ⟨d, Hdm.out, Hs.out⟩, Bool.true_or]), Hmb.out.trans HmR.out (fun _ _ h => h)⟩
      | false =>
        have Hs := Lib.hid hs
        clear hs
        go_wp2_with fail
        go_roundw
        case rel =>
          refine ⟨i + 1, by go_num, hlt, HmR.out, fun k x' hk hx' => ?_⟩
          rcases Nat.lt_succ_iff_lt_or_eq.1 hk with hk | rfl
          · exact Hall.out k x' hk hx'
          · rw [Hdi.out] at hx'; cases hx'; exact Hs.out
        case measure => simp [intOf]; omega
    · obtain rfl : i = m.length := by omega
      have HR := Lib.hid (show (l.all (fun c => m.any fun d => rimpB d c) && underB gs sc) = R by
        rw [← HR.out, List.any_eq_false.2 fun x hx => by
          obtain ⟨k, hk⟩ := List.mem_iff_getElem?.1 hx
          rw [hall k x (List.getElem?_eq_some_iff.1 hk).1 hk]
          decide]
        rfl)
      have hm0o := Hmb.out.trans hmr (fun _ _ h => h)
      have hFo := hmr.heap HF.out (fun h => h)
      have Hm0o := Lib.hid hm0o
      have HFo := Lib.hid hFo
      have HGr := Lib.hid hGr
      clear hm0o hFo hGr hmr hall
      go_wp2_with fail
      clear g1
      go_loopw [6] (fun i wr => ∃ j : Nat, i = .int .i64 j ∧ j ≤ l.length ∧ Mod (fun _ => False) wo wr ∧ (∀ (k : Nat) (x : Cnd), k < j → l[k]? = some x → (m.any fun d => rimpB d x) = true)) (fun i _ => l.length - (intOf i).toNat)
      case atStart => exact ⟨0, rfl, Nat.zero_le _, Mod.refl _ _, fun k x hk => by omega⟩
      case round =>
        obtain ⟨wp, rfl⟩ : ∃ wp : World, wp = wr := ⟨_, rfl⟩
        obtain ⟨i, rfl, hi, hmp, hall⟩ := hrel
        have hFp := hmp.heap HFo.out (fun h => h)
        have hGp := hmp.heap HGr.out (fun h => h)
        have f1 : wp.cell? ⟨w.heap.size, 1, none⟩ = some (.slice a l.length cap) := cell_of hFp rfl
        have hm0p := Hm0o.out.trans hmp (fun _ _ h => h)
        by_cases hlt : i < l.length
        · have hlt' : (i : Int) < l.length := by omega
          obtain ⟨c, hci⟩ : ∃ x, l[i]? = some x := ⟨_, List.getElem?_eq_getElem hlt⟩
          have hcm := List.mem_of_getElem? hci
          obtain ⟨g, off, rfl, hcc⟩ : ∃ g off, a = some ⟨g, off, none⟩ ∧ CellsAt wp g (off + i * 7) c.cells := rd_cnd (Hv.out.mod hm0p (fun _ _ h => h)) hci
          have Hmp := Lib.hid hmp
          have Hall := Lib.hid hall
          have Hci := Lib.hid hci
          have Hcm := Lib.hid hcm
          have Hcc := Lib.hid hcc
          have HFp := Lib.hid hFp
          have HGp := Lib.hid hGp
          have Hm0p := Lib.hid hm0p
          clear hmp hall hci hcm hcc hFp hGp hm0p
          go_wp2_with fail
          go_loopw [7, 8] (fun ok jv wq => ∃ j : Nat, jv = .int .i64 j ∧ j ≤ m.length ∧ Mod (fun _ => False) wp wq ∧ ok = .bool ((m.take j).any fun d => rimpB d c)) (fun _ jv _ => m.length - (intOf jv).toNat)
          case atStart => exact ⟨0, rfl, Nat.zero_le _, Mod.refl _ _, rfl⟩
          case round =>
            obtain ⟨j, rfl, hj, hmq, rfl⟩ := hrel
            have hGq := hmq.heap HGp.out (fun h => h)
            have hFq := hmq.heap HFp.out (fun h => h)
            have g1 : wr.cell? ⟨wa.heap.size, 1, none⟩ = some (.slice ga m.length gcap) := cell_of hGq rfl
            by_cases hlj : j < m.length
            · have hlj' : (j : Int) < m.length := by omega
              obtain ⟨d, hdj⟩ : ∃ x, m[j]? = some x := ⟨_, List.getElem?_eq_getElem hlj⟩
              have hm0q := Hm0p.out.trans hmq (fun _ _ h => h)
              obtain ⟨dg, doff, rfl, hdc⟩ : ∃ dg doff, ga = some ⟨dg, doff, none⟩ ∧ CellsAt wr dg (doff + j * 7) d.cells := rd_cnd (Hg.out.mod hm0q (fun _ _ h => h)) hdj
              have hcq := Hcc.out.mod hmq (fun h => h)
              have hh := rimplies_at d c (Hmt0.out d (List.mem_of_getElem? hdj)) (Hlt0.out c Hcm.out)
              have hstep : ((m.take (j + 1)).any fun d => rimpB d c) = (((m.take j).any fun d => rimpB d c) || rimpB d c) := by
                rw [List.take_add_one, List.any_append, hdj]
                simp
              have hf : ∀ w', Mod (fun _ => False) wr w' → w'.cell? ⟨wa.heap.size, 1, none⟩ = some (.slice (some ⟨dg, doff, none⟩) m.length gcap) ∧ w'.cell? ⟨w.heap.size, 1, none⟩ = some (.slice (some ⟨g, off, none⟩) l.length cap) ∧
                  AllCells w' dg (doff + j * 7) 7 ∧ cellsOf w' dg (doff + j * 7) 7 = d.cells.toArray ∧ AllCells w' g (off + i * 7) 7 ∧ cellsOf w' g (off + i * 7) 7 = c.cells.toArray := fun w' hw' => by
                have hd2 := hdc.mod hw' (fun h => h)
                have hc2 := hcq.mod hw' (fun h => h)
                exact ⟨cell_of (hw'.heap hGq (fun h => h)) rfl, cell_of (hw'.heap hFq (fun h => h)) rfl, hd2.all rfl, hd2.is rfl, hc2.all rfl, hc2.is rfl⟩
              have hh2 : ∀ w', Mod (fun _ => False) wr w' → Calls Tryz.prog 62 #[.agg d.cells.toArray, .agg c.cells.toArray] w' fun e w'' => e = .returned (.bool (rimpB d c)) ∧ Mod (fun _ => False) wr w'' :=
                fun w' hw' => (hh w').mono fun e w'' h => ⟨h.1, hw'.trans h.2 (fun _ _ h => h)⟩
              obtain ⟨acc, hacc⟩ : ∃ q, ((m.take j).any fun d => rimpB d c) = q := ⟨_, rfl⟩
              obtain ⟨H, hH⟩ : ∃ q, rimpB d c = q := ⟨_, rfl⟩
              rw [hacc, hH] at hstep
              rw [hacc]
              rw [hH] at hh2
              have Hmq := Lib.hid hmq
              have Hdj := Lib.hid hdj
              have Hdc := Lib.hid hdc
              have Hcq := Lib.hid hcq
              have Hf := Lib.hid hf
              have Hh2 := Lib.hid hh2
              have Hstep := Lib.hid hstep
              clear hmq hdj hdc hcq hf hh2 hstep hFq hGq hm0q hacc hH hh
              cases H with
              | false =>
                have Hstep := Lib.hid (show ((m.take (j + 1)).any fun d => rimpB d c) = acc by rw [Hstep.out, Bool.or_false])
                go_wp2_with fail
                refine wp_region_news (by kernel_rfl) (by kernel_rfl) ?_
                iterate 11 (first
                  | (refine quiet_skip ?_ (fun K hK => ?_)
                     · first | (go_simp; done) | (go_simp; simp [undef]; done)
                     go_simp; refine hK _ ?_; clear hK K)
                  | (refine quiet_do ?_ ?_ (fun w' hw' => ?_) (fun K hK => ?_)
                     · first | (go_simp; done) | (go_simp; simp [undef]; done)
                     rotate_left
                     · obtain ⟨f1, f2, f3, f4, f5, f6⟩ := Hf.out w' hw'
                       go_simp
                       rfl
                     go_simp; refine hK _ ?_; clear hK K)
                  | (refine quiet_in ?_ ?_ ?_ ?_ (fun w' hw' => ?_) ?_ (fun K hK => ?_)
                     · first | (go_simp; done) | (go_simp; simp [undef]; done)
                     rotate_left 3
                     · obtain ⟨f1, f2, f3, f4, f5, f6⟩ := Hf.out w' hw'
                       go_simp
                       constructor <;> rfl
                     · first | exact Hh2.out
                     go_simp; refine hK _ ?_; clear hK K))
                refine quiet_end (fun w' hw' => ?_)
                have Hw' := Lib.hid (Hmq.out.trans hw' (fun _ _ h => h))
                clear hw'
                go_wp2_with fail
                go_roundw
                case rel => exact ⟨j + 1, by go_num, hlj, Hw'.out, by rw [Hstep.out]⟩
                case measure => simp [intOf]; omega
              | true =>
                have Hstep := Lib.hid (show ((m.take (j + 1)).any fun d => rimpB d c) = true by rw [Hstep.out, Bool.or_true])
                go_wp2_with fail
                refine wp_region_news (by kernel_rfl) (by kernel_rfl) ?_
                iterate 11 (first
                  | (refine quiet_skip ?_ (fun K hK => ?_)
                     · first | (go_simp; done) | (go_simp; simp [undef]; done)
                     go_simp; refine hK _ ?_; clear hK K)
                  | (refine quiet_do ?_ ?_ (fun w' hw' => ?_) (fun K hK => ?_)
                     · first | (go_simp; done) | (go_simp; simp [undef]; done)
                     rotate_left
                     · obtain ⟨f1, f2, f3, f4, f5, f6⟩ := Hf.out w' hw'
                       go_simp
                       rfl
                     go_simp; refine hK _ ?_; clear hK K)
                  | (refine quiet_in ?_ ?_ ?_ ?_ (fun w' hw' => ?_) ?_ (fun K hK => ?_)
                     · first | (go_simp; done) | (go_simp; simp [undef]; done)
                     rotate_left 3
                     · obtain ⟨f1, f2, f3, f4, f5, f6⟩ := Hf.out w' hw'
                       go_simp
                       constructor <;> rfl
                     · first | exact Hh2.out
                     go_simp; refine hK _ ?_; clear hK K))
                refine quiet_end (fun w' hw' => ?_)
                have Hw' := Lib.hid (Hmq.out.trans hw' (fun _ _ h => h))
                clear hw'
                go_wp2_with fail
                go_roundw
                case rel => exact ⟨j + 1, by go_num, hlj, Hw'.out, by rw [Hstep.out]⟩
                case measure => simp [intOf]; omega
            · obtain rfl : j = m.length := by omega
              rw [List.take_length]
              have hmq1 := Hmp.out.trans hmq (fun _ _ h => h)
              obtain ⟨acc, hacc⟩ : ∃ q, (m.any fun d => rimpB d c) = q := ⟨_, rfl⟩
              rw [hacc]
              have Hmq1 := Lib.hid hmq1
              have Hacc := Lib.hid hacc
              clear hmq1 hacc hmq hFq hGq
              cases acc with
              | true =>
                go_wp2_with fail
                go_roundw
                case rel =>
                  refine ⟨i + 1, by go_num, hlt, Hmq1.out, fun k x' hk hx' => ?_⟩
                  rcases Nat.lt_succ_iff_lt_or_eq.1 hk with hk | rfl
                  · exact Hall.out k x' hk hx'
                  · rw [Hci.out] at hx'; cases hx'; exact Hacc.out
                case measure => simp [intOf]; omega
              | false =>
                go_wp2
                go_ret
                exact ⟨ret_bool (by rw [← HR.out, List.all_eq_false.2 ⟨c, Hcm.out, by rw [Hacc.out]; decide⟩]; rfl), Hm0o.out.trans Hmq1.out (fun _ _ h => h)⟩
        · obtain rfl : i = l.length := by omega
          have c0 : wp.cell? ⟨w.heap.size, 0, none⟩ = some (.string sc) := cell_of hFp rfl
          have e0 : wp.cell? ⟨wa.heap.size, 0, none⟩ = some (.string gs) := cell_of hGp rfl
          have hun := runder_at gs sc Hgs.out Hsc.out wp
          have hfr : R = underB gs sc := by
            rw [← HR.out, List.all_eq_true.2 fun x hx => by
              obtain ⟨k, hk⟩ := List.mem_iff_getElem?.1 hx
              exact hall k x (List.getElem?_eq_some_iff.1 hk).1 hk, Bool.true_and]
          have Hun := Lib.hid hun
          have Hfr := Lib.hid hfr
          have Hm0p := Lib.hid hm0p
          clear hun hfr hm0p hmp hall hFp hGp
          go_wp2_with fail
          refine Hun.out.mono ?_
          rintro e w3 ⟨rfl, rfl⟩
          go_wp2
          go_ret
          exact ⟨ret_bool Hfr.out, Hm0p.out⟩
end Go.Proofs.YtloplmaekonenaaGreatDoor

namespace Go.Proofs.YtloplmaekonenaaGreatDoor
set_option maxRecDepth 20000
open Go.RowKit

/-- Rules, as they are handed to a law: their conditions' numbers are words. -/
def RuNum (l : List Ru) : Prop := ∀ r ∈ l, ∀ c ∈ r.cs, c.v.num < 2 ^ 64
theorem RuNum.filter {l : List Ru} {p : Ru → Bool} (h : RuNum l) : RuNum (l.filter p) := fun r hr => h r (List.mem_filter.1 hr).1

end Go.Proofs.YtloplmaekonenaaGreatDoor

namespace Go.Proofs.YtloplmaekonenaaGreatDoor
set_option maxRecDepth 20000
open Go.ChangeShapes Go.WideShapes Go.ChangeAt Go.RowKit

section
variable {H : Type} {enc : TypeId × Value → H} {W : World}

theorem spot_none {w : World} {a : Addr} {v : Value} (h : w.cell? a = some v) : a.spot = none := by
  unfold World.cell? at h
  split at h
  · split at h
    · cases h
    · rename_i hs; simpa using hs
  · cases h

/-- A slice of structs of so many cells, opened: F tells what an element is. -/
theorem open_row {α : Type} {t e : TypeId} {sz : Nat} (cells : α → List Value) (hlen : ∀ x, (cells x).length = sz) (hsz : 0 < sz) (ht : Tryz.prog.underlying t = some (.slice e)) (he : Tryz.prog.cellsOf e = sz) (x0 : α) (p : α → Prop)
    (hone : ∀ (fuel : Nat) (cs : List Value) (y : DataW H × List MemPlace), DataW.trod enc Tryz.prog W 0 (fun _ => true) true fuel e cs = some y → ∃ x, cs = cells x ∧ p x)
    {fuel : Nat} {v : Value} {y : DataW H × List MemPlace} (h : DataW.trod enc Tryz.prog W 0 (fun _ => true) true fuel t [v] = some y) :
    ∃ l : List α, RdSl W sz v l.length (l.flatMap cells) ∧ l.length ≤ maxLen ∧ ∀ x ∈ l, p x := by
  rcases Go.Deep.open_slice ht h with ⟨hcs, -⟩ | ⟨a, len, cap', m', k, D, Pl, hcs, -, hlc, hcm, hmm, -, hcell⟩
  · have hcs : v = Value.slice none 0 0 := by simpa using hcs
    subst hcs
    exact ⟨[], ⟨by simp, none, 0, rfl, Nat.le_refl _, fun _ => rfl, fun b hb _ => (by cases hb)⟩, Nat.zero_le _, fun x hx => (by cases hx)⟩
  · have hcs : v = Value.slice (some a) len cap' := by simpa using hcs
    subst hcs
    simp only [if_true] at hmm
    subst hmm
    rw [he] at hcell
    have hall : ∀ i, i < len → ∃ x : α, (∀ q u, (cells x)[q]? = some u → W.cell? ((a.add (i * sz)).add q) = some u) ∧ p x := fun i hi => by
      obtain ⟨cs, h1, h2⟩ := hcell i (by omega)
      obtain ⟨x, rfl, h3⟩ := hone _ _ _ h2
      obtain ⟨-, h5, h6⟩ := World.cells?_some h1
      refine ⟨x, fun q u hq => ?_, h3⟩
      have := h6 q (by have := (List.getElem?_eq_some_iff.1 hq).1; rw [hlen] at this; exact this)
      rw [hq] at this
      exact this
    obtain ⟨F, hF⟩ : ∃ F : Nat → α, ∀ i, i < len → (∀ q u, (cells (F i))[q]? = some u → W.cell? ((a.add (i * sz)).add q) = some u) ∧ p (F i) :=
      ⟨fun i => if h : i < len then (hall i h).choose else x0, fun i hi => by simp only [dif_pos hi]; exact (hall i hi).choose_spec⟩
    have hl : ((List.range len).map F).length = len := by simp
    have hfl : ∀ l : List α, (l.flatMap cells).length = l.length * sz := fun l => by
      induction l with
      | nil => simp
      | cons b l ih => rw [List.flatMap_cons, List.length_append, ih, hlen, List.length_cons, Nat.add_mul]; omega
    have hget : ∀ (l : List α) (j : Nat) (u : Value), (l.flatMap cells)[j]? = some u → ∃ x, l[j / sz]? = some x ∧ (cells x)[j % sz]? = some u := fun l => by
      induction l with
      | nil => intro j u h; simp at h
      | cons b l ih =>
        intro j u h
        rw [List.flatMap_cons] at h
        rcases Nat.lt_or_ge j sz with hj | hj
        · rw [List.getElem?_append_left (by rw [hlen]; exact hj)] at h
          exact ⟨b, by rw [Nat.div_eq_of_lt hj]; rfl, by rw [Nat.mod_eq_of_lt hj]; exact h⟩
        · rw [List.getElem?_append_right (by rw [hlen]; exact hj), hlen] at h
          obtain ⟨x, h1, h2⟩ := ih _ _ h
          have e1 : j / sz = (j - sz) / sz + 1 := by
            rw [Nat.div_eq j sz, if_pos ⟨hsz, hj⟩]
          have e2 : j % sz = (j - sz) % sz := Nat.mod_eq_sub_mod hj
          exact ⟨x, by rw [e1, List.getElem?_cons_succ]; exact h1, by rw [e2]; exact h2⟩
    refine ⟨(List.range len).map F, ⟨by rw [hfl], some a, m', by rw [hl], by rw [hl]; exact hlc, (fun h => by cases h), fun b hb hn => ?_⟩, by rw [hl]; omega, fun x hx => ?_⟩
    · cases hb
      rw [hl] at hn
      have hsp : a.spot = none := by
        have h0 := (hF 0 hn).1 0
        cases hc : (cells (F 0))[0]? with
        | none =>
          have := List.getElem?_eq_none_iff.1 hc
          rw [hlen] at this
          omega
        | some u =>
          have := h0 u hc
          rw [Nat.zero_mul] at this
          exact spot_none this
      obtain ⟨g, off, spot⟩ := a
      have hsp : spot = none := hsp
      subst hsp
      refine ⟨g, off, rfl, fun j u hu => ?_⟩
      obtain ⟨x, hx1, hx2⟩ := hget _ _ _ hu
      rw [List.getElem?_map] at hx1
      by_cases hj : j / sz < len
      · rw [List.getElem?_range hj] at hx1
        simp only [Option.map_some, Option.some.injEq] at hx1
        subst hx1
        have := (hF _ hj).1 _ _ hx2
        rw [addr_add, addr_add] at this
        have e := Nat.div_add_mod j sz
        rw [Nat.mul_comm] at e
        rw [show off + j = off + j / sz * sz + j % sz by omega]
        exact this
      · rw [List.getElem?_eq_none (by simpa using hj)] at hx1
        cases hx1
    · obtain ⟨i, hi, rfl⟩ := List.mem_map.1 hx
      exact (hF i (List.mem_range.1 hi)).2

theorem open_cnds0 {fuel : Nat} {v : Value} {y : DataW H × List MemPlace} (h : DataW.trod enc Tryz.prog W 0 (fun _ => true) true fuel 27 [v] = some y) :
    ∃ l : List Cnd, RdSl W 7 v l.length (cnds l) ∧ l.length ≤ maxLen ∧ ∀ x ∈ l, x.name.size ≤ maxLen ∧ x.v.text.size ≤ maxLen ∧ (-9223372036854775808 ≤ x.v.int ∧ x.v.int ≤ 9223372036854775807) ∧ x.v.num < 2 ^ 64 :=
  open_row Cnd.cells Cnd.cells_length (by decide) Tryz.underlying27 (by kernel_rfl) ⟨⟨#[]⟩, 0, V.zero⟩ _ (fun _ _ _ h => by
    obtain ⟨c, h1, h2⟩ := open_cnd h
    exact ⟨c, h1, h2⟩) h

end
theorem le63 {n : Nat} (h : n ≤ maxLen) : n ≤ 9223372036854775807 := by simp only [maxLen] at h; omega
end Go.Proofs.YtloplmaekonenaaGreatDoor

namespace Go.Proofs.YtloplmaekonenaaGreatDoor
set_option maxRecDepth 20000
open Go.ChangeShapes Go.WideShapes Go.ChangeAt Go.RowKit

theorem open_att {H : Type} {enc : TypeId × Value → H} {W : World} {base : Nat} {spare : Nat → Bool} {held : Bool} {fuel : Nat} {cs : List Value} {x : DataW H × List MemPlace}
    (h : DataW.trod enc Tryz.prog W base spare held fuel 90 cs = some x) : ∃ c : Att, cs = c.cells ∧ c.name.size ≤ maxLen ∧ c.v.text.size ≤ maxLen ∧ (-9223372036854775808 ≤ c.v.int ∧ c.v.int ≤ 9223372036854775807) ∧ c.v.num < 2 ^ 64 := by
  obtain ⟨xs, n1, -, -, hlen, hxs, hf⟩ := DataW.trod_struct Tryz.underlying90 h
  rw [show Tryz.prog.cellsOf 90 = 6 by kernel_rfl] at hlen
  have hx : ∀ i, i < 2 → ∃ y, xs[i]? = some y := fun i hi => by
    simp at hxs
    exact ⟨_, List.getElem?_eq_getElem (by omega)⟩
  match cs, hlen with
  | [c0, c2, c3, c4, c5, c6], _ =>
    obtain ⟨y0, h0⟩ := hx 0 (by omega)
    obtain ⟨y2, h2⟩ := hx 1 (by omega)
    have f0 : DataW.trod enc Tryz.prog W base spare held n1 9 (([c0, c2, c3, c4, c5, c6].drop 0).take (Tryz.prog.cellsOf 9)) = xs[0]? := hf 0 _ rfl
    have f2 : DataW.trod enc Tryz.prog W base spare held n1 79 (([c0, c2, c3, c4, c5, c6].drop 1).take (Tryz.prog.cellsOf 79)) = xs[1]? := hf 1 _ rfl
    rw [h0, show Tryz.prog.cellsOf 9 = 1 by kernel_rfl] at f0
    rw [h2, show Tryz.prog.cellsOf 79 = 5 by kernel_rfl] at f2
    obtain ⟨z0, e0, -, l0⟩ := DataW.trod_string Tryz.underlying9 f0
    obtain ⟨z2, e2, w2, n2, l2⟩ := open_valt f2
    have e0 : [c0] = [.string z0] := e0
    have e2 : [c2, c3, c4, c5, c6] = z2.cells := e2
    cases e0
    exact ⟨⟨z0, z2⟩, (by show _ = Value.string z0 :: z2.cells; rw [← e2]; rfl), l0, l2, w2, n2⟩

theorem open_atts0 {H : Type} {enc : TypeId × Value → H} {W : World} {fuel : Nat} {v : Value} {y : DataW H × List MemPlace} (h : DataW.trod enc Tryz.prog W 0 (fun _ => true) true fuel 30 [v] = some y) :
    ∃ l : List Att, RdSl W 6 v l.length (atts l) ∧ l.length ≤ maxLen ∧ ∀ x ∈ l, x.name.size ≤ maxLen ∧ x.v.text.size ≤ maxLen ∧ (-9223372036854775808 ≤ x.v.int ∧ x.v.int ≤ 9223372036854775807) ∧ x.v.num < 2 ^ 64 :=
  open_row Att.cells Att.cells_length (by decide) Tryz.underlying30 (by kernel_rfl) ⟨⟨#[]⟩, V.zero⟩ _ (fun _ _ _ h => by
    obtain ⟨c, h1, h2⟩ := open_att h
    exact ⟨c, h1, h2⟩) h

theorem open_ev {H : Type} {enc : TypeId × Value → H} {W : World} {base : Nat} {v : Value} {d : DataW H} {p : List MemPlace} (hok : Value.okWide Tryz.prog W .any base 32 v)
    (h : DataW.Trod enc Tryz.prog W 0 (fun _ => true) true 32 v d p) : ∃ (sc : ByteArray) (av : Value) (l : List Att), v = .agg #[.string sc, av] ∧ sc.size ≤ maxLen ∧ RdSl W 6 av l.length (atts l) ∧ l.length ≤ maxLen ∧
      ∀ x ∈ l, x.name.size ≤ maxLen ∧ x.v.text.size ≤ maxLen ∧ (-9223372036854775808 ≤ x.v.int ∧ x.v.int ≤ 9223372036854775807) ∧ x.v.num < 2 ^ 64 := by
  obtain ⟨c0, c1, y0, y1, m, rfl, rfl, rfl, hy0, hy1⟩ := Joins.open_agg2 Tryz.underlying32 (by kernel_rfl) (by kernel_rfl) hok h
  obtain ⟨sc, e0, -, l0⟩ := DataW.trod_string Tryz.underlying9 hy0
  cases e0
  obtain ⟨l, h1, h2, h3⟩ := open_atts0 (v := c1) hy1
  exact ⟨sc, c1, l, rfl, l0, h1, h2, h3⟩
end Go.Proofs.YtloplmaekonenaaGreatDoor

namespace Go.Proofs.YtloplmaekonenaaGreatDoor
set_option maxRecDepth 20000
open Go.ChangeShapes Go.WideShapes Go.ChangeAt Go.RowKit

section
variable {H : Type} {enc : TypeId × Value → H} {W : World}
/-- What is known of a filter that was opened. -/
structure Fr.ok (W : World) (f : Fr) : Prop where
  cs : RdSl W 7 (.slice f.a f.cs.length f.c) f.cs.length (cnds f.cs)
  sc : f.sc.size ≤ 9223372036854775807 ∧ f.cs.length ≤ 9223372036854775807
  nm : ∀ c ∈ f.cs, c.name.size ≤ 9223372036854775807 ∧ (-9223372036854775808 ≤ c.v.int ∧ c.v.int ≤ 9223372036854775807) ∧ c.v.num < 2 ^ 64
theorem open_frc {fuel : Nat} {cs : List Value} {x : DataW H × List MemPlace} (h : DataW.trod enc Tryz.prog W 0 (fun _ => true) true fuel 29 cs = some x) : ∃ f : Fr, cs = f.cells ∧ f.ok W := by
  obtain ⟨xs, n1, -, -, hlen, -, -⟩ := DataW.trod_struct Tryz.underlying29 h
  rw [show Tryz.prog.cellsOf 29 = 2 by kernel_rfl] at hlen
  match cs, hlen with
  | [c4, c5], _ =>
    obtain ⟨ys0, ys1, n2, -, -, g0, g1⟩ := trod_struct2 Tryz.underlying29 h
    have g0 : DataW.trod enc Tryz.prog W 0 (fun _ => true) true n2 9 (([c4, c5].drop 0).take (Tryz.prog.cellsOf 9)) = some ys0 := g0
    have g1 : DataW.trod enc Tryz.prog W 0 (fun _ => true) true n2 27 (([c4, c5].drop 1).take (Tryz.prog.cellsOf 27)) = some ys1 := g1
    rw [show Tryz.prog.cellsOf 9 = 1 by kernel_rfl] at g0
    rw [show Tryz.prog.cellsOf 27 = 1 by kernel_rfl] at g1
    obtain ⟨z4, e4, -, l4⟩ := DataW.trod_string Tryz.underlying9 g0
    have e4 : [c4] = [.string z4] := e4
    cases e4
    obtain ⟨l, k1, k2, k3⟩ := open_cnds0 (v := c5) g1
    obtain ⟨A, cap, rfl⟩ : ∃ A cap, c5 = .slice A l.length cap := by
      obtain ⟨-, a', c', k5, -⟩ := k1
      exact ⟨a', c', k5⟩
    exact ⟨⟨z4, A, cap, l⟩, rfl, k1, ⟨le63 l4, le63 k2⟩, fun c hc => ⟨le63 (k3 c hc).1, (k3 c hc).2.2.1, (k3 c hc).2.2.2⟩⟩
theorem int_rng {n : Int} (h : (Lit.int .i64 n).wf = true) : -9223372036854775808 ≤ n ∧ n ≤ 9223372036854775807 := by
  simp only [Lit.wf, Bool.and_eq_true, decide_eq_true_eq] at h
  exact ⟨show (-9223372036854775808 : Int) ≤ n from h.1, show n ≤ (9223372036854775807 : Int) from h.2⟩
end
end Go.Proofs.YtloplmaekonenaaGreatDoor

namespace Go.Proofs.YtloplmaekonenaaGreatDoor
set_option maxRecDepth 20000
open Go.RowKit

/-- What all attributes have, those of a new event have, as they are kept. -/
theorem newL_memb {p : Att → Prop} (l : List Att) (h : ∀ a ∈ l, p a.canon) : ∀ a ∈ newL l, p a := by
  unfold newL
  suffices ∀ (l acc : List Att), (∀ a ∈ l, p a.canon) → (∀ a ∈ acc, p a) → ∀ a ∈ l.foldl (fun acc a => putA acc a.canon) acc, p a from this l [] h (by simp)
  intro l
  induction l with
  | nil => intro acc _ h; exact h
  | cons a l ih =>
    intro acc h1 h2
    refine ih _ (fun b hb => h1 b (by simp [hb])) fun b hb => ?_
    have ha := h1 a (by simp)
    have hb : b ∈ putA acc a.canon := hb
    unfold putA at hb
    split at hb
    · rcases List.mem_append.1 hb with hb | hb
      · exact h2 b (List.mem_of_mem_take hb)
      · rcases List.mem_cons.1 hb with rfl | hb
        · exact ha
        · exact h2 b (List.mem_of_mem_drop hb)
    · rcases List.mem_append.1 hb with hb | hb
      · exact h2 b (List.mem_of_mem_take hb)
      · rcases List.mem_cons.1 hb with rfl | hb
        · exact ha
        · exact h2 b (List.mem_of_mem_drop hb)
theorem newL_bound {l : List Att} {K : Nat} {x : Att} (hx : x ∈ newL l) (h : ∀ a ∈ l, a.name.size ≤ K) : x.name.size ≤ K := newL_memb (p := fun a => a.name.size ≤ K) l (fun a ha => h a ha) x hx
end Go.Proofs.YtloplmaekonenaaGreatDoor
