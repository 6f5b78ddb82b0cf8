/-
  The document's answer for filters: Under, Match, Covers.
  The index's law, in the plain: what Norm leaves asks for the same.
  The plain law of what a table tells: of the filters from elsewhere those that no other one covers.
-/
import Derived.Test.YtloplmaekonenaaGreatDoorZg30
import Derived.Test.YtloplmaekonenaaGreatDoorZg27
import Derived.Test.YtloplmaekonenaaGreatDoorZg3
import Derived.Test.YtloplmaekonenaaGreatDoorZg29
import Derived.Test.YtloplmaekonenaaGreatDoorZg28
import Derived.Test.YtloplmaekonenaaGreatDoorZg25
namespace Go.Proofs.YtloplmaekonenaaGreatDoor
set_option maxRecDepth 20000
open Go.RowKit

theorem cond_struct : (match Tryz.prog.underlying 81 with | some (.struct _) => true | some (.array _ _) => true | _ => false) = true := by kernel_rfl
theorem run_load_cnd {ρ : Operand → Value} {dst : Option Tmp} {x : Operand} {type : TypeId} {pos : String} {after : Array Edge} {guard : Option (Nat × Bool)} {w : World} (h : AllV w (ρ x) 7) :
    Sem.run Tryz.prog (execOp ρ ⟨dst, .load 81 x, type, pos, after, guard⟩) w = .ok (.value (.agg (cellsV w (ρ x) 7))) w := run_load_all cond_struct cnd_size h

set_option maxHeartbeats 1000000 in
theorem runder_at (s top : ByteArray) (hs : s.size ≤ 9223372036854775807) (hp : top.size ≤ 9223372036854775807) (w : World) : Calls Tryz.prog 50 #[.string s, .string top] w fun e w' => e = .returned (.bool (underB s top)) ∧ w' = w := by
  have hs' : (s.size : Int) ≤ 9223372036854775807 := by omega
  have hp' : (top.size : Int) ≤ 9223372036854775807 := by omega
  cases h1 : top.toList.isEmpty with
  | true =>
    rw [show underB s top = true by unfold underB; rw [h1]; rfl]
    clear hs hp
    go_enter Tryz.func50, Tryz.ntmps50
    go_wp2
    go_ret
    exact ⟨rfl, rfl⟩
  | false =>
  cases h2 : s.toList == top.toList with
  | true =>
    rw [show underB s top = true by unfold underB; rw [h1, h2]; rfl]
    clear hs hp
    go_enter Tryz.func50, Tryz.ntmps50
    go_wp2
    go_ret
    exact ⟨rfl, rfl⟩
  | false =>
  have hu : underB s top = (prefB s top && s.data.toList[top.size]? == some 47) := by unfold underB; rw [h1, h2]; rfl
  rw [hu]
  by_cases hlt : top.size < s.size
  · have hlt' : (top.size : Int) < s.size := by omega
    have hle' : (top.size : Int) ≤ s.size := by omega
    have hg : s.data.toList[top.size]? = some s[top.size] := List.getElem?_eq_getElem hlt
    have hb : (s.data.toList[top.size]? == some 47) = ((s[top.size].toNat : Int) == 47) := by
      rw [hg, Bool.eq_iff_iff, beq_iff_eq, beq_iff_eq]
      constructor
      · intro h
        have h := Option.some.inj h
        rw [h]
        rfl
      · intro h
        congr 1
        exact UInt8.toNat.inj (by have : (47 : UInt8).toNat = 47 := rfl; omega)
    have hpt := prefix_take (s := s) (p := top)
    rw [hb, ← hpt]
    obtain ⟨T, hT⟩ : ∃ T, ((s.extract 0 top.size).toList == top.toList) = T := ⟨_, rfl⟩
    rw [hT]
    clear hs hp hu hg hb hpt
    cases T with
    | false =>
      rw [Bool.false_and]
      go_enter Tryz.func50, Tryz.ntmps50
      go_wp2
      go_ret
      exact ⟨rfl, rfl⟩
    | true =>
      rw [Bool.true_and]
      go_enter Tryz.func50, Tryz.ntmps50
      go_wp2
      go_ret
      exact ⟨rfl, rfl⟩
  · have hlt' : (s.size : Int) ≤ top.size := by omega
    have hd : decide (top.size < s.size) = false := decide_eq_false hlt
    have hg : s.data.toList[top.size]? = none := List.getElem?_eq_none (by show s.size ≤ _; omega)
    rw [hg, show ((none : Option UInt8) == some 47) = false from rfl, Bool.and_false]
    clear hs hp hu hg hlt
    go_enter Tryz.func50, Tryz.ntmps50
    go_wp2
    go_ret
    exact ⟨rfl, rfl⟩

def rMatchC (c : Cnd) (l : List Att) : Bool := l.any fun a => a.name.toList == c.name.toList && c.holds a.v

attribute [local go_sem ↓] run_load_cnd

set_option maxRecDepth 20000 in
set_option maxHeartbeats 4000000 in
theorem rmatch_at (w : World) (sc : ByteArray) (cv : Value) (cs : List Cnd) (hc : RdSl w 7 cv cs.length (cnds cs)) (hcl : cs.length ≤ 9223372036854775807) (hsc : sc.size ≤ 9223372036854775807) (hct : ∀ c ∈ cs, c.v.text.size ≤ 9223372036854775807)
    (es : ByteArray) (av : Value) (l : List Att) (hv : RdSl w 6 av l.length (atts l)) (hll : l.length ≤ 1000000) (hes : es.size ≤ 9223372036854775807) (ht : ∀ a ∈ l, a.v.text.size ≤ 9223372036854775807) :
    Calls Tryz.prog 19 #[.agg #[.string sc, cv], .agg #[.string es, av]] w fun e w' => e = .returned (.bool (underB es sc && cs.all fun c => rMatchC c l)) ∧ Mod (fun _ => False) w w' := by
  obtain ⟨a, cap, rfl, hcap⟩ : ∃ a c, cv = .slice a cs.length c ∧ cs.length ≤ c := by obtain ⟨-, a, c, h, h2, -⟩ := hc; exact ⟨a, c, h, h2⟩
  obtain ⟨b, bcap, rfl, hbcap⟩ : ∃ a c, av = .slice a l.length c ∧ l.length ≤ c := by obtain ⟨-, a, c, h, h2, -⟩ := hv; exact ⟨a, c, h, h2⟩
  have hcl' : (cs.length : Int) ≤ 9223372036854775807 := by omega
  have hll' : (l.length : Int) ≤ 1000000 := by omega
  obtain ⟨wa, hwa⟩ : ∃ wa : World, w.alloc (.cells #[.string sc, .slice a cs.length cap] 29) = wa := ⟨_, rfl⟩
  have hmwa : Mod (fun _ => False) w wa := hwa ▸ (Mod.refl (fun _ => False) w).alloc _
  have hgwa := heap_alloc_new w (.cells #[.string sc, .slice a cs.length cap] 29)
  rw [hwa] at hgwa
  have hzwa : wa.heap.size = w.heap.size + 1 := by rw [← hwa]; simp
  obtain ⟨wb, hwb⟩ : ∃ wb : World, wa.alloc (.cells #[.string es, .slice b l.length bcap] 32) = wb := ⟨_, rfl⟩
  have hmwb : Mod (fun _ => False) wa wb := hwb ▸ (Mod.refl (fun _ => False) wa).alloc _
  have hgwb := heap_alloc_new wa (.cells #[.string es, .slice b l.length bcap] 32)
  rw [hwb] at hgwb
  have hzwb : wb.heap.size = wa.heap.size + 1 := by rw [← hwb]; simp
  have hmb := hmwa.trans hmwb (fun _ _ h => h)
  have hF := hmwb.heap hgwa (fun h => h)
  have f0 : wb.cell? ⟨w.heap.size, 0, none⟩ = some (.string sc) := cell_of hF rfl
  have f1 : wb.cell? ⟨w.heap.size, 1, none⟩ = some (.slice a cs.length cap) := cell_of hF rfl
  have e0 : wb.cell? ⟨wa.heap.size, 0, none⟩ = some (.string es) := cell_of hgwb rfl
  have e1 : wb.cell? ⟨wa.heap.size, 1, none⟩ = some (.slice b l.length bcap) := cell_of hgwb rfl
  have hun := runder_at es sc hes hsc wb
  obtain ⟨R, hR⟩ : ∃ R, (underB es sc && cs.all fun c => rMatchC c l) = R := ⟨_, rfl⟩
  rw [hR]
  have hqz : w.heap.size < wa.heap.size := by omega
  have Hc := Lib.hid hc
  have Hv := Lib.hid hv
  have Hct := Lib.hid hct
  have Ht := Lib.hid ht
  have Hwa := Lib.hid hwa
  have Hwb := Lib.hid hwb
  have Hmb := Lib.hid hmb
  have HF := Lib.hid hF
  have Hgwb := Lib.hid hgwb
  have Hun := Lib.hid hun
  have HR := Lib.hid hR
  clear hc hv hct ht hwa hwb hmb hF hgwb hun hR hmwa hmwb hgwa hzwa hzwb hcl hll hsc hes
  go_enter Tryz.func19, Tryz.ntmps19
  go_wp2_with (first | (rw [show w.alloc _ = wa from Hwa.out]) | (rw [show wa.alloc _ = wb from Hwb.out]) | fail)
  refine Hun.out.mono ?_
  rintro e w1 ⟨rfl, rfl⟩
  cases hu : underB es sc with
  | false =>
    have Hu := Lib.hid hu
    clear hu
    go_wp2
    go_ret
    exact ⟨ret_bool (by rw [← HR.out, Hu.out]; rfl), Hmb.out⟩
  | true =>
  have HR := Lib.hid (show (cs.all fun c => rMatchC c l) = R by rw [← HR.out, hu]; rfl)
  clear hu Hun f0 f1 e0 e1
  go_wp2_with fail
  go_loopw [5] (fun i wr => ∃ j : Nat, i = .int .i64 j ∧ j ≤ cs.length ∧ Mod (fun _ => False) w1 wr ∧ (∀ (k : Nat) (x : Cnd), k < j → cs[k]? = some x → rMatchC x l = true)) (fun i _ => cs.length - (intOf i).toNat)
  case atStart => exact ⟨0, rfl, Nat.zero_le _, Mod.refl _ _, fun k x hk => by omega⟩
  case round =>
    obtain ⟨wo, rfl⟩ : ∃ wo : World, wo = wr := ⟨_, rfl⟩
    obtain ⟨i, rfl, hi, hmr, hall⟩ := hrel
    have hFr := hmr.heap HF.out (fun h => h)
    have f1 : wo.cell? ⟨w.heap.size, 1, none⟩ = some (.slice a cs.length cap) := cell_of hFr rfl
    by_cases hlt : i < cs.length
    · have hlt' : (i : Int) < cs.length := by omega
      obtain ⟨c, hci⟩ : ∃ x, cs[i]? = some x := ⟨_, List.getElem?_eq_getElem hlt⟩
      have hcm := List.mem_of_getElem? hci
      have hm0r := Hmb.out.trans hmr (fun _ _ h => h)
      obtain ⟨g, off, rfl, hcc⟩ : ∃ g off, a = some ⟨g, off, none⟩ ∧ CellsAt wo g (off + i * 7) c.cells := rd_cnd (Hc.out.mod hm0r (fun _ _ h => h)) hci
      have hEr := hmr.heap Hgwb.out (fun h => h)
      have Hmr := Lib.hid hmr
      have Hall := Lib.hid hall
      have Hci := Lib.hid hci
      have Hcm := Lib.hid hcm
      have Hcc := Lib.hid hcc
      have HFr := Lib.hid hFr
      have Hm0r := Lib.hid hm0r
      have HEr := Lib.hid hEr
      clear hmr hall hci hcm hcc hFr hm0r hEr
      go_wp2_with fail
      go_loopw [6, 7] (fun ok jv wr => ∃ j : Nat, jv = .int .i64 j ∧ j ≤ l.length ∧ Mod (fun _ => False) wo wr ∧ ok = .bool (rMatchC c (l.take j))) (fun _ jv _ => l.length - (intOf jv).toNat)
      case atStart => exact ⟨0, rfl, Nat.zero_le _, Mod.refl _ _, rfl⟩
      case round =>
        obtain ⟨j, rfl, hj, hmq, rfl⟩ := hrel
        have hEq := hmq.heap HEr.out (fun h => h)
        have hFq := hmq.heap HFr.out (fun h => h)
        have e1 : wr.cell? ⟨wa.heap.size, 1, none⟩ = some (.slice b l.length bcap) := cell_of hEq rfl
        by_cases hlj : j < l.length
        · have hlj' : (j : Int) < l.length := by omega
          obtain ⟨x, hxj⟩ : ∃ x, l[j]? = some x := ⟨_, List.getElem?_eq_getElem hlj⟩
          have hm0q := Hm0r.out.trans hmq (fun _ _ h => h)
          obtain ⟨ag, aoff, rfl, hxc⟩ : ∃ ag aoff, b = some ⟨ag, aoff, none⟩ ∧ CellsAt wr ag (aoff + j * 6) x.cells := rd_att (Hv.out.mod hm0q (fun _ _ h => h)) hxj
          have hcq := Hcc.out.mod hmq (fun h => h)
          have hh := rholds_at c x.v (Hct.out c Hcm.out) (Ht.out x (List.mem_of_getElem? hxj))
          have hstep : rMatchC c (l.take (j + 1)) = (rMatchC c (l.take j) || (x.name.toList == c.name.toList && c.holds x.v)) := by
            unfold rMatchC
            rw [List.take_add_one, List.any_append, hxj]
            simp
          have hf : ∀ w', Mod (fun _ => False) wr w' → w'.cell? ⟨wa.heap.size, 1, none⟩ = some (.slice (some ⟨ag, aoff, none⟩) l.length bcap) ∧ w'.cell? ⟨w.heap.size, 1, none⟩ = some (.slice (some ⟨g, off, none⟩) cs.length cap) ∧
              w'.cell? ⟨ag, aoff + j * 6, none⟩ = some (.string x.name) ∧ AllCells w' ag (aoff + j * 6 + 1) 5 ∧ cellsOf w' ag (aoff + j * 6 + 1) 5 = x.v.cells.toArray ∧
              w'.cell? ⟨g, off + i * 7, none⟩ = some (.string c.name) ∧ AllCells w' g (off + i * 7) 7 ∧ cellsOf w' g (off + i * 7) 7 = c.cells.toArray := fun w' hw' => by
            have hx2 := hxc.mod hw' (fun h => h)
            have hc2 := hcq.mod hw' (fun h => h)
            have hx3 : CellsAt w' ag (aoff + j * 6 + 1) x.v.cells := fun q u hu => by
              have := hx2 (q + 1) u (by simpa [Att.cells] using hu)
              rw [show aoff + j * 6 + 1 + q = aoff + j * 6 + (q + 1) by omega]
              exact this
            exact ⟨cell_of (hw'.heap hEq (fun h => h)) rfl, cell_of (hw'.heap hFq (fun h => h)) rfl, hx2 0 _ rfl, hx3.all rfl, hx3.is rfl, hc2 0 _ rfl, hc2.all rfl, hc2.is rfl⟩
          have hh2 : ∀ w', Mod (fun _ => False) wr w' → Calls Tryz.prog 51 #[.agg c.cells.toArray, .agg x.v.cells.toArray] w' fun e w'' => e = .returned (.bool (c.holds x.v)) ∧ Mod (fun _ => False) wr w'' :=
            fun w' hw' => (hh w').mono fun e w'' h => ⟨h.1, hw'.trans h.2 (fun _ _ h => h)⟩
          obtain ⟨acc, hacc⟩ : ∃ q, rMatchC c (l.take j) = q := ⟨_, rfl⟩
          obtain ⟨H, hH⟩ : ∃ q, c.holds x.v = q := ⟨_, rfl⟩
          rw [hacc, hH] at hstep
          rw [hacc]
          rw [hH] at hh2
          have Hmq := Lib.hid hmq
          have Hxj := Lib.hid hxj
          have Hxc := Lib.hid hxc
          have Hcq := Lib.hid hcq
          have Hf := Lib.hid hf
          have Hh2 := Lib.hid hh2
          have Hstep := Lib.hid hstep
          clear hmq hxj hxc hcq hf hh2 hstep hFq hEq hm0q hacc hH hh
          cases hnm : x.name.toList == c.name.toList with
          | false =>
            have Hstep := Lib.hid (show rMatchC c (l.take (j + 1)) = acc by rw [Hstep.out, hnm, Bool.false_and, Bool.or_false])
            go_wp2_with fail
            refine wp_region_news (by kernel_rfl) (by kernel_rfl) ?_
            iterate 27 (first
              | (refine quiet_skip ?_ (fun K hK => ?_)
                 · first | (go_simp; done) | (go_simp; simp [undef]; done)
                 go_simp; refine hK _ ?_; clear hK K)
              | (refine quiet_do ?_ ?_ (fun w' hw' => ?_) (fun K hK => ?_)
                 · first | (go_simp; done) | (go_simp; simp [undef]; done)
                 rotate_left
                 · obtain ⟨f1, f2, f3, f4, f5, f6, f7, f8⟩ := Hf.out w' hw'
                   go_simp
                   rfl
                 go_simp; refine hK _ ?_; clear hK K)
              | (refine quiet_in ?_ ?_ ?_ ?_ (fun w' hw' => ?_) ?_ (fun K hK => ?_)
                 · first | (go_simp; done) | (go_simp; simp [undef]; done)
                 rotate_left 3
                 · obtain ⟨f1, f2, f3, f4, f5, f6, f7, f8⟩ := Hf.out w' hw'
                   go_simp
                   constructor <;> rfl
                 · first | exact Hh2.out
                 go_simp; refine hK _ ?_; clear hK K))
            refine quiet_end (fun w' hw' => ?_)
            have Hw' := Lib.hid (Hmq.out.trans hw' (fun _ _ h => h))
            clear hw' hnm
            go_wp2_with fail
            go_roundw
            case rel => exact ⟨j + 1, by go_num, hlj, Hw'.out, by rw [Hstep.out]⟩
            case measure => simp [intOf]; omega
          | true =>
            have Hstep := Lib.hid (show rMatchC c (l.take (j + 1)) = (acc || H) by rw [Hstep.out, hnm, Bool.true_and])
            cases H with
            | false =>
              have Hstep := Lib.hid (show rMatchC c (l.take (j + 1)) = acc by rw [Hstep.out, Bool.or_false])
              go_wp2_with fail
              refine wp_region_news (by kernel_rfl) (by kernel_rfl) ?_
              iterate 27 (first
                | (refine quiet_skip ?_ (fun K hK => ?_)
                   · first | (go_simp; done) | (go_simp; simp [undef]; done)
                   go_simp; refine hK _ ?_; clear hK K)
                | (refine quiet_do ?_ ?_ (fun w' hw' => ?_) (fun K hK => ?_)
                   · first | (go_simp; done) | (go_simp; simp [undef]; done)
                   rotate_left
                   · obtain ⟨f1, f2, f3, f4, f5, f6, f7, f8⟩ := Hf.out w' hw'
                     go_simp
                     rfl
                   go_simp; refine hK _ ?_; clear hK K)
                | (refine quiet_in ?_ ?_ ?_ ?_ (fun w' hw' => ?_) ?_ (fun K hK => ?_)
                   · first | (go_simp; done) | (go_simp; simp [undef]; done)
                   rotate_left 3
                   · obtain ⟨f1, f2, f3, f4, f5, f6, f7, f8⟩ := Hf.out w' hw'
                     go_simp
                     constructor <;> rfl
                   · first | exact Hh2.out
                   go_simp; refine hK _ ?_; clear hK K))
              refine quiet_end (fun w' hw' => ?_)
              have Hw' := Lib.hid (Hmq.out.trans hw' (fun _ _ h => h))
              clear hw' hnm
              go_wp2_with fail
              go_roundw
              case rel => exact ⟨j + 1, by go_num, hlj, Hw'.out, by rw [Hstep.out]⟩
              case measure => simp [intOf]; omega
            | true =>
              have Hstep := Lib.hid (show rMatchC c (l.take (j + 1)) = true by rw [Hstep.out, Bool.or_true])
              go_wp2_with fail
              refine wp_region_news (by kernel_rfl) (by kernel_rfl) ?_
              iterate 27 (first
                | (refine quiet_skip ?_ (fun K hK => ?_)
                   · first | (go_simp; done) | (go_simp; simp [undef]; done)
                   go_simp; refine hK _ ?_; clear hK K)
                | (refine quiet_do ?_ ?_ (fun w' hw' => ?_) (fun K hK => ?_)
                   · first | (go_simp; done) | (go_simp; simp [undef]; done)
                   rotate_left
                   · obtain ⟨f1, f2, f3, f4, f5, f6, f7, f8⟩ := Hf.out w' hw'
                     go_simp
                     rfl
                   go_simp; refine hK _ ?_; clear hK K)
                | (refine quiet_in ?_ ?_ ?_ ?_ (fun w' hw' => ?_) ?_ (fun K hK => ?_)
                   · first | (go_simp; done) | (go_simp; simp [undef]; done)
                   rotate_left 3
                   · obtain ⟨f1, f2, f3, f4, f5, f6, f7, f8⟩ := Hf.out w' hw'
                     go_simp
                     constructor <;> rfl
                   · first | exact Hh2.out
                   go_simp; refine hK _ ?_; clear hK K))
              refine quiet_end (fun w' hw' => ?_)
              have Hw' := Lib.hid (Hmq.out.trans hw' (fun _ _ h => h))
              clear hw' hnm
              go_wp2_with fail
              go_roundw
              case rel => exact ⟨j + 1, by go_num, hlj, Hw'.out, by rw [Hstep.out]⟩
              case measure => simp [intOf]; omega
        · obtain rfl : j = l.length := by omega
          rw [List.take_length]
          have hmq1 := Hmr.out.trans hmq (fun _ _ h => h)
          obtain ⟨acc, hacc⟩ : ∃ q, rMatchC c l = q := ⟨_, rfl⟩
          rw [hacc]
          have Hmq1 := Lib.hid hmq1
          have Hacc := Lib.hid hacc
          clear hmq1 hacc hmq hFq hEq
          cases acc with
          | true =>
            go_wp2_with fail
            go_roundw
            case rel =>
              refine ⟨i + 1, by go_num, hlt, Hmq1.out, fun k x' hk hx' => ?_⟩
              rcases Nat.lt_succ_iff_lt_or_eq.1 hk with hk | rfl
              · exact Hall.out k x' hk hx'
              · rw [Hci.out] at hx'; cases hx'; exact Hacc.out
            case measure => simp [intOf]; omega
          | false =>
            go_wp2
            go_ret
            exact ⟨ret_bool (by rw [← HR.out, List.all_eq_false.2 ⟨c, Hcm.out, by rw [Hacc.out]; decide⟩]), Hmb.out.trans Hmq1.out (fun _ _ h => h)⟩
    · obtain rfl : i = cs.length := by omega
      have hfr : R = true := by
        rw [← HR.out, List.all_eq_true.2 fun x hx => by
          obtain ⟨k, hk⟩ := List.mem_iff_getElem?.1 hx
          exact hall k x (List.getElem?_eq_some_iff.1 hk).1 hk]
      have hm2 := Hmb.out.trans hmr (fun _ _ h => h)
      have Hfr := Lib.hid hfr
      have Hm2 := Lib.hid hm2
      clear hfr hm2 hall hmr hFr
      go_wp2
      go_ret
      exact ⟨ret_bool Hfr.out, Hm2.out⟩
end Go.Proofs.YtloplmaekonenaaGreatDoor

namespace Go.Proofs.YtloplmaekonenaaGreatDoor
set_option maxRecDepth 20000
open Go.RowKit

theorem fRank_zero : fRank 0 = 0 := by decide +kernel
theorem fRank_canon {x : Nat} (hx : x < 2 ^ 64) (hn : isNum x) : fRank (canonB x) = fRank x := by
  rw [canon_num2 hx hn]
  by_cases h : rungB x = 0
  · rw [if_pos h, fRank_zero]
    unfold fRank
    rw [h]
    split <;> rfl
  · rw [if_neg h]
theorem fEq_nan : fEq nanB nanB = false := by decide +kernel
theorem fEq_00 : fEq 0 0 = true := by decide +kernel
theorem fEq_canon (x : Nat) : fEq (canonB x) (canonB x) = fEq x x := by
  unfold canonB
  cases h : fEq x x with
  | false => rw [if_neg (by decide)]; exact fEq_nan
  | true =>
    rw [if_pos rfl]
    split
    · exact fEq_00
    · exact h
theorem canon_kind {v : V} (h : 0 ≤ v.kind ∧ v.kind ≤ 3) : v.canon.kind = v.kind := by
  unfold V.canon
  split
  · rename_i h; exact h.symm
  · split
    · rename_i h; exact h.symm
    · split
      · rename_i h; exact h.symm
      · split
        · rename_i h; exact h.symm
        · omega
theorem canon_void {v : V} (h : 0 ≤ v.kind ∧ v.kind ≤ 3) : v.canon.void = v.void := by
  unfold V.void
  rw [canon_kind h]
  by_cases h1 : v.kind = 1
  · have : v.canon.num = canonB v.num := by unfold V.canon; rw [if_neg (by omega), if_pos h1]
    rw [this, fEq_canon]
  · rw [beq_eq_false_iff_ne.2 h1]; rfl
theorem cmp_canon {a v : V} (h : 0 ≤ v.kind ∧ v.kind ≤ 3) (hk : a.kind = v.kind) (ha : a.void = false) (hv : v.void = false) (hn : v.num < 2 ^ 64) : V.cmp a v.canon = V.cmp a v := by
  unfold V.cmp
  by_cases h0 : a.kind = 0
  · rw [if_pos h0, if_pos h0]
    have : v.canon.int = v.int := by unfold V.canon; rw [if_pos (hk ▸ h0)]
    rw [this]
  · rw [if_neg h0, if_neg h0]
    by_cases h1 : a.kind = 1
    · rw [if_pos h1, if_pos h1]
      have e : v.canon.num = canonB v.num := by unfold V.canon; rw [if_neg (by omega), if_pos (hk ▸ h1)]
      have na := nvoid ha h1
      have nv := nvoid hv (hk ▸ h1)
      have nc := nvoid (a := v.canon) (by rw [canon_void h]; exact hv) (by rw [canon_kind h]; omega)
      rw [e] at nc ⊢
      rw [fLt_dec na nc, fLt_dec nc na, fLt_dec na nv, fLt_dec nv na, fRank_canon hn nv]
    · rw [if_neg h1, if_neg h1]
      by_cases h2 : a.kind = 2
      · rw [if_pos h2, if_pos h2]
        have : v.canon.text = v.text := by unfold V.canon; rw [if_neg (by omega), if_neg (by omega), if_pos (by omega)]
        rw [this]
      · rw [if_neg h2, if_neg h2]
        have : v.canon.yes = v.yes := by unfold V.canon; rw [if_neg (by omega), if_neg (by omega), if_neg (by omega), if_pos (by omega)]
        rw [this]
theorem cmpV_canon {a v : V} (h : 0 ≤ v.kind ∧ v.kind ≤ 3) (hn : v.num < 2 ^ 64) : cmpV a v.canon = cmpV a v := by
  by_cases hq : a.kind = v.kind ∧ a.void = false ∧ v.void = false
  · rw [cmpV_alike hq.1 hq.2.1 hq.2.2, cmpV_alike (by rw [canon_kind h]; exact hq.1) hq.2.1 (by rw [canon_void h]; exact hq.2.2), cmp_canon h hq.1 hq.2.1 hq.2.2 hn]
  · rw [cmpV_no hq, cmpV_no (by rw [canon_kind h, canon_void h]; exact hq)]
/-- A condition as it is kept does for the same values. -/
theorem norm_holds {c : Cnd} (h : 0 ≤ c.v.kind ∧ c.v.kind ≤ 3) (hn : c.v.num < 2 ^ 64) (v : V) : c.norm.holds v = c.holds v := by
  unfold Cnd.norm
  by_cases h7 : c.op = 7
  · rw [if_pos h7]
    unfold Cnd.holds
    rw [if_pos rfl, if_pos h7]
  · rw [if_neg h7]
    unfold Cnd.holds
    simp only []
    rw [cmpV_canon h hn]
    by_cases h6 : c.op = 6
    · rw [if_neg h7, if_neg h7, if_pos h6, if_pos h6]
      by_cases hq : v.kind = c.v.kind ∧ v.void = false ∧ c.v.void = false
      · by_cases h2 : v.kind = 2
        · have : c.v.canon.text = c.v.text := by unfold V.canon; rw [if_neg (by omega), if_neg (by omega), if_pos (by omega)]
          rw [this]
        · rw [beq_eq_false_iff_ne.2 h2]; simp
      · rw [cmpV_no hq]; rfl
    · rw [if_neg h7, if_neg h7, if_neg h6, if_neg h6]
theorem norm_name (c : Cnd) : c.norm.name = c.name := by unfold Cnd.norm; split <;> rfl
theorem norm_op (c : Cnd) : c.norm.op = c.op := by
  unfold Cnd.norm
  split
  · rename_i h; exact h.symm
  · rfl

/-! What is needless: each condition of a list follows from one that is kept. -/
def okC (c : Cnd) : Prop := (0 ≤ c.op ∧ c.op ≤ 7) ∧ c.v.num < 2 ^ 64
theorem filter_lt {α : Type} {p q : α → Bool} {l : List α} (h : ∀ x ∈ l, p x = true → q x = true) {x : α} (hx : x ∈ l) (hq : q x = true) (hp : p x = false) : (l.filter p).length < (l.filter q).length := by
  induction l with
  | nil => cases hx
  | cons y l ih =>
    have hle : (l.filter p).length ≤ (l.filter q).length := by
      clear ih hx
      have h' : ∀ x ∈ l, p x = true → q x = true := fun x hx => h x (List.mem_cons_of_mem _ hx)
      clear h
      induction l with
      | nil => exact Nat.le_refl _
      | cons z l ih2 =>
        have := ih2 (fun x hx => h' x (List.mem_cons_of_mem _ hx))
        rw [List.filter_cons, List.filter_cons]
        have hz := h' z (List.mem_cons_self ..)
        cases hpz : p z <;> cases hqz : q z
        · simpa using this
        · simp; omega
        · rw [hz hpz] at hqz; cases hqz
        · simpa using this
    rw [List.filter_cons, List.filter_cons]
    rcases List.mem_cons.1 hx with rfl | hx
    · rw [hp, hq]; simp; omega
    · have h1 := ih (fun x hx => h x (List.mem_cons_of_mem _ hx)) hx
      have hy := h y (List.mem_cons_self ..)
      cases hpy : p y <;> cases hqy : q y
      · simpa using h1
      · simp; omega
      · rw [hy hpy] at hqy; cases hqy
      · simpa using h1
/-! Counting: of unlike names a condition is met at most once. -/
/-- gazetteref07.Match. -/
def rMatF (f : Fil) (es : ByteArray) (L : List Att) : Bool := underB es f.1 && f.2.all fun c => rMatchC c L
/-- What a condition must be like. -/
structure Cnd.whole (c : Cnd) : Prop where
  op : 0 ≤ c.op ∧ c.op ≤ 7
  kind : 0 ≤ c.v.kind ∧ c.v.kind ≤ 3
  num : c.v.num < 2 ^ 64
theorem whole_ok {c : Cnd} (h : c.whole) : okC c ∧ okC c.norm := by
  refine ⟨⟨h.op, h.num⟩, ⟨by rw [norm_op]; exact h.op, ?_⟩⟩
  unfold Cnd.norm
  split
  · exact (by decide : (0 : Nat) < 2 ^ 64)
  · show c.v.canon.num < 2 ^ 64
    unfold V.canon
    split
    · exact (by decide : (0 : Nat) < 2 ^ 64)
    · split
      · exact canonB_lt h.num
      · split
        · exact (by decide : (0 : Nat) < 2 ^ 64)
        · split <;> exact (by decide : (0 : Nat) < 2 ^ 64)
end Go.Proofs.YtloplmaekonenaaGreatDoor

namespace Go.Proofs.YtloplmaekonenaaGreatDoor
set_option maxRecDepth 20000
open Go.RowKit Go.Sort

/-- Each once. -/
def onceS : List (List UInt8) → List (List UInt8)
  | [] => []
  | k :: l => if k ∈ onceS l then onceS l else k :: onceS l
theorem onceS_mem {l : List (List UInt8)} {k : List UInt8} : k ∈ onceS l ↔ k ∈ l := by
  induction l generalizing k with
  | nil => exact Iff.rfl
  | cons a l ih =>
    unfold onceS
    split
    · rename_i h
      rw [ih, List.mem_cons]
      exact ⟨.inr, fun h2 => h2.elim (fun e => by rw [e]; exact ih.1 h) id⟩
    · rw [List.mem_cons, List.mem_cons, ih]
theorem onceS_nodup (l : List (List UInt8)) : (onceS l).Nodup := by
  induction l with
  | nil => exact List.nodup_nil
  | cons a l ih =>
    unfold onceS
    split
    · exact ih
    · rename_i h
      exact List.nodup_cons.2 ⟨h, ih⟩
/-- What all places but one have under a key. -/
def allF (M : List (Int × Fil)) (td : Int) (k : List UInt8) : Option Fil := (M.find? fun p => !(p.1 == td) && keyF p.2 == k).map Prod.snd
/-- Their keys, rising, each once. -/
def allK (M : List (Int × Fil)) (td : Int) : List (List UInt8) := riseS (onceS ((M.filter fun p => !(p.1 == td)).map fun p => keyF p.2))
/-- Does a filter cover another one? -/
def covQ (f g : Fil) : Bool := covF f.1 f.2 g.1 g.2
/-- Is one covered by another one that it doesn't cover itself, or with a lesser key? -/
def covdF (g : List UInt8 → Option Fil) (ks : List (List UInt8)) (k : List UInt8) (f : Fil) : Bool :=
  ks.any fun j => match g j with | some h => decide (j ≠ k) && (covQ h f && (decide (j < k) || !covQ f h)) | none => false
/-- What is told. -/
def outL (M : List (Int × Fil)) (td : Int) : List Fil := (allK M td).filterMap fun k => (allF M td k).filter fun f => !covdF (allF M td) (allK M td) k f

theorem riseS_mem {L : List (List UInt8)} {x : List UInt8} : x ∈ riseS L ↔ x ∈ L := (List.mergeSort_perm L leB).mem_iff
theorem riseS_lt {L : List (List UInt8)} (h : L.Nodup) : (riseS L).Pairwise (· < ·) := by
  have h1 : (riseS L).Pairwise (fun a b => leB a b = true) := by
    unfold riseS
    refine List.pairwise_mergeSort (fun a b c h1 h2 => ?_) (fun a b => ?_) L
    · unfold leB at *
      simp only [decide_eq_true_eq] at *
      exact List.le_trans h1 h2
    · unfold leB
      simp only [Bool.or_eq_true, decide_eq_true_eq]
      exact List.le_total a b
  have h2 : (riseS L).Nodup := (List.mergeSort_perm L leB).nodup_iff.2 h
  refine (h1.and h2).imp fun {a b} h => ?_
  have h3 : a ≤ b := by
    have := h.1
    unfold leB at this
    simpa using this
  exact Classical.byContradiction fun h4 => h.2 (List.le_antisymm h3 h4)
theorem allF_some {M : List (Int × Fil)} {td : Int} {k : List UInt8} {q : Fil} (h : allF M td k = some q) : keyF q = k ∧ ∃ x, x ≠ td ∧ (x, q) ∈ M := by
  unfold allF at h
  obtain ⟨p, h1, rfl⟩ := Option.map_eq_some_iff.1 h
  have h2 := List.find?_some h1
  simp only [Bool.and_eq_true, beq_iff_eq, Bool.not_eq_true', beq_eq_false_iff_ne] at h2
  exact ⟨h2.2, p.1, h2.1, List.mem_of_find?_eq_some h1⟩
theorem allF_has {M : List (Int × Fil)} {td x : Int} {q : Fil} (h : (x, q) ∈ M) (hx : x ≠ td) : ∃ r, allF M td (keyF q) = some r := by
  cases h1 : allF M td (keyF q) with
  | some r => exact ⟨r, rfl⟩
  | none =>
    unfold allF at h1
    rw [Option.map_eq_none_iff, List.find?_eq_none] at h1
    have := h1 _ h
    simp [hx] at this
theorem allK_mem {M : List (Int × Fil)} {td : Int} {k : List UInt8} : k ∈ allK M td ↔ ∃ q, allF M td k = some q := by
  unfold allK
  rw [riseS_mem, onceS_mem]
  constructor
  · intro h
    obtain ⟨p, h1, rfl⟩ := List.mem_map.1 h
    obtain ⟨h1, h2⟩ := List.mem_filter.1 h1
    exact allF_has (x := p.1) h1 (by simpa using h2)
  · rintro ⟨q, h⟩
    obtain ⟨rfl, x, h1, h2⟩ := allF_some h
    exact List.mem_map.2 ⟨(x, q), List.mem_filter.2 ⟨h2, by simpa using h1⟩, rfl⟩
theorem allK_lt (M : List (Int × Fil)) (td : Int) : (allK M td).Pairwise (· < ·) := riseS_lt (onceS_nodup _)
/-- Filters of which covering is an order. -/
def TabOk (M : List (Int × Fil)) : Prop := ∀ p ∈ M, okCs p.2.2
theorem outL_mem {M : List (Int × Fil)} {td : Int} {f : Fil} (h : f ∈ outL M td) : allF M td (keyF f) = some f ∧ covdF (allF M td) (allK M td) (keyF f) f = false := by
  unfold outL at h
  obtain ⟨k, h1, h2⟩ := List.mem_filterMap.1 h
  obtain ⟨h3, h4⟩ := Option.filter_eq_some_iff.1 h2
  obtain ⟨rfl, -⟩ := allF_some h3
  exact ⟨h3, by simpa using h4⟩
theorem outL_lt (M : List (Int × Fil)) (td : Int) : (outL M td).Pairwise fun a b => keyF a < keyF b := by
  unfold outL
  rw [List.pairwise_filterMap]
  refine (allK_lt M td).imp fun {a b} h f hf g hg => ?_
  obtain ⟨h3, -⟩ := Option.filter_eq_some_iff.1 hf
  obtain ⟨h4, -⟩ := Option.filter_eq_some_iff.1 hg
  rw [(allF_some h3).1, (allF_some h4).1]
  exact h
theorem covd_no {g : List UInt8 → Option Fil} {ks : List (List UInt8)} {k j : List UInt8} {f h : Fil} (hn : covdF g ks k f = false) (hj : j ∈ ks) (hg : g j = some h) (hne : j ≠ k) (hc : covQ h f = true) : ¬ j < k ∧ covQ f h = true := by
  unfold covdF at hn
  rw [List.any_eq_false] at hn
  have := hn j hj
  rw [hg] at this
  simp only [hc, Bool.true_and, Bool.and_eq_true, decide_eq_true_eq, Bool.or_eq_true, Bool.not_eq_true', not_and] at this
  have h2 := this hne
  refine ⟨fun h => h2 (.inl h), ?_⟩
  cases hcf : covQ f h with
  | true => rfl
  | false => exact absurd (.inr hcf) h2
/-- None of those that are told covers another one. -/
theorem outL_apart {M : List (Int × Fil)} {td : Int} {f g : Fil} (hf : f ∈ outL M td) (hg : g ∈ outL M td) (hne : keyF g ≠ keyF f) : covQ g f = false := by
  obtain ⟨f1, f2⟩ := outL_mem hf
  obtain ⟨g1, g2⟩ := outL_mem hg
  cases hc : covQ g f with
  | false => rfl
  | true =>
    obtain ⟨h1, h2⟩ := covd_no f2 (allK_mem.2 ⟨_, g1⟩) g1 hne hc
    obtain ⟨h3, -⟩ := covd_no g2 (allK_mem.2 ⟨_, f1⟩) f1 (fun e => hne e.symm) h2
    exact absurd (List.le_antisymm h3 h1) (fun e => hne e)
theorem covQ_trans {a b c : Fil} (ha : okCs a.2) (hb : okCs b.2) (hc : okCs c.2) (h1 : covQ a b = true) (h2 : covQ b c = true) : covQ a c = true := covF_trans ha hb hc h1 h2
/-- What is covered is covered by one that is told. -/
theorem outL_cover {M : List (Int × Fil)} {td : Int} (hM : TabOk M) : ∀ (n : Nat) (k : List UInt8) (f : Fil), allF M td k = some f →
    ((allK M td).filter fun j => match allF M td j with | some h => decide (j ≠ k) && (covQ h f && (decide (j < k) || !covQ f h)) | none => false).length ≤ n → ∃ g ∈ outL M td, covQ g f = true
  | n, k, f, hf, hn => by
    have okf : okCs f.2 := by
      obtain ⟨-, x, -, h⟩ := allF_some hf
      exact hM _ h
    have hkf := (allF_some hf).1
    cases hb : covdF (allF M td) (allK M td) k f with
    | false =>
      refine ⟨f, ?_, covF_refl okf⟩
      unfold outL
      exact List.mem_filterMap.2 ⟨k, allK_mem.2 ⟨f, hf⟩, Option.filter_eq_some_iff.2 ⟨hf, by simp [hb]⟩⟩
    | true =>
      unfold covdF at hb
      obtain ⟨j, hj, hb⟩ := List.any_eq_true.1 hb
      obtain ⟨h, hh⟩ := allK_mem.1 hj
      have hkh := (allF_some hh).1
      have okh : okCs h.2 := by
        obtain ⟨-, x, -, h⟩ := allF_some hh
        exact hM _ h
      rw [hh] at hb
      simp only [Bool.and_eq_true, decide_eq_true_eq, Bool.or_eq_true, Bool.not_eq_true'] at hb
      obtain ⟨hne, hc, ho⟩ := hb
      have hlt := filter_lt (l := allK M td) (x := j)
        (p := fun i => match allF M td i with | some r => decide (i ≠ j) && (covQ r h && (decide (i < j) || !covQ h r)) | none => false)
        (q := fun i => match allF M td i with | some r => decide (i ≠ k) && (covQ r f && (decide (i < k) || !covQ f r)) | none => false) (fun i hi hp => by
          cases hr : allF M td i with
          | none => rw [hr] at hp; cases hp
          | some r =>
            have okr : okCs r.2 := by
              obtain ⟨-, x, -, h⟩ := allF_some hr
              exact hM _ h
            rw [hr] at hp
            simp only [Bool.and_eq_true, decide_eq_true_eq, Bool.or_eq_true, Bool.not_eq_true'] at hp ⊢
            obtain ⟨p1, p2, p3⟩ := hp
            have hrf := covQ_trans okr okh okf p2 hc
            refine ⟨fun e => ?_, hrf, ?_⟩
            · subst e
              rw [hf] at hr
              cases hr
              have h1 : i < j := p3.resolve_right (by rw [hc]; simp)
              have h2 : j < i := ho.resolve_right (by rw [p2]; simp)
              exact absurd h2 (List.lt_asymm h1)
            · cases hfr : covQ f r with
              | false => exact .inr rfl
              | true =>
                have h1 := covQ_trans okf okr okh hfr p2
                have h2 := covQ_trans okh okf okr hc hfr
                have h3 : i < j := p3.resolve_right (by rw [h2]; simp)
                have h4 : j < k := ho.resolve_right (by rw [h1]; simp)
                exact .inl (List.lt_trans h3 h4)) hj (by rw [hh]; simp [hne, hc, ho]) (by rw [hh]; simp)
      match n, hn with
      | 0, hn => omega
      | n + 1, hn =>
        obtain ⟨g, hg, hgc⟩ := outL_cover hM n j h hh (by omega)
        have okg : okCs g.2 := by
          obtain ⟨-, x, -, h⟩ := allF_some (outL_mem hg).1
          exact hM _ h
        exact ⟨g, hg, covQ_trans okg okh okf hgc hc⟩
end Go.Proofs.YtloplmaekonenaaGreatDoor
