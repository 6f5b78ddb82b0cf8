/-
  The document's answer for conditions: Implies, and that the program's is the same.
  The document's answer for filters: Under, Match, Covers.
-/
import Derived.Test.YtloplmaekonenaaGreatDoorZb34
import Derived.Test.YtloplmaekonenaaGreatDoorZb33
import Derived.Test.YtloplmaekonenaaGreatDoorZb5
namespace Go.Proofs.YtloplmaekonenaaGreatDoor
set_option maxRecDepth 20000
open Go.RowKit

/-- Of values of one kind, that are numbers if they are of that kind: alike, if none stands ahead of the other one. -/
theorem V.same_cmp {a b : V} (ha : a.num < 2 ^ 64) (hb : b.num < 2 ^ 64) (hk : a.kind = b.kind) (hva : a.void = false) (hvb : b.void = false) : V.same a b = ((cmpV a b).2 && (cmpV a b).1 == 0) := by
  have hal : V.alike a b = true := by unfold V.alike; rw [hva, hvb, hk]; simp
  unfold cmpV
  rw [if_pos hal]
  show _ = (true && V.cmp a b == 0)
  rw [Bool.true_and]
  unfold V.same V.cmp
  rw [hk, beq_self_eq_true, Bool.true_and]
  by_cases h0 : b.kind = 0
  · rw [if_pos h0, if_pos h0]
    unfold sgn
    rcases Int.lt_trichotomy a.int b.int with h | h | h
    · rw [decide_eq_true h, if_pos rfl, beq_eq_false_iff_ne.2 (by omega)]; rfl
    · rw [decide_eq_false (by omega), decide_eq_false (by omega), h, beq_self_eq_true]; rfl
    · rw [decide_eq_false (by omega), decide_eq_true h, beq_eq_false_iff_ne.2 (by omega)]; rfl
  rw [if_neg h0, if_neg h0]
  by_cases h1 : b.kind = 1
  · rw [if_pos h1, if_pos h1]
    have hfa : fEq a.num a.num = true := by
      unfold V.void at hva
      rw [hk, h1] at hva
      simpa using hva
    have hfb : fEq b.num b.num = true := by
      unfold V.void at hvb
      rw [h1] at hvb
      simpa using hvb
    rw [key_eq ha hb hfa hfb, eq_lt hfa hfb]
    cases fLt a.num b.num <;> cases fLt b.num a.num <;> rfl
  rw [if_neg h1, if_neg h1]
  by_cases h2 : b.kind = 2
  · rw [if_pos h2, if_pos h2, Bool.eq_iff_iff, beq_iff_eq, beq_iff_eq, cmp_zero, ByteArray.toList_eq, ByteArray.toList_eq]
  rw [if_neg h2, if_neg h2]
  cases a.yes <;> cases b.yes <;> rfl

end Go.Proofs.YtloplmaekonenaaGreatDoor

namespace Go.Proofs.YtloplmaekonenaaGreatDoor
set_option maxRecDepth 20000
open Go.RowKit

theorem cond_struct : (match Tryz.prog.underlying 81 with | some (.struct _) => true | some (.array _ _) => true | _ => false) = true := by kernel_rfl
theorem run_load_cnd {ρ : Operand → Value} {dst : Option Tmp} {x : Operand} {type : TypeId} {pos : String} {after : Array Edge} {guard : Option (Nat × Bool)} {w : World} (h : AllV w (ρ x) 7) :
    Sem.run Tryz.prog (execOp ρ ⟨dst, .load 81 x, type, pos, after, guard⟩) w = .ok (.value (.agg (cellsV w (ρ x) 7))) w := run_load_all cond_struct cnd_size h

set_option maxHeartbeats 1000000 in
theorem runder_at (s top : ByteArray) (hs : s.size ≤ 9223372036854775807) (hp : top.size ≤ 9223372036854775807) (w : World) : Calls Tryz.prog 50 #[.string s, .string top] w fun e w' => e = .returned (.bool (underB s top)) ∧ w' = w := by
  have hs' : (s.size : Int) ≤ 9223372036854775807 := by omega
  have hp' : (top.size : Int) ≤ 9223372036854775807 := by omega
  cases h1 : top.toList.isEmpty with
  | true =>
    rw [show underB s top = true by unfold underB; rw [h1]; rfl]
    clear hs hp
    go_enter Tryz.func50, Tryz.ntmps50
    go_wp2
    go_ret
    exact ⟨rfl, rfl⟩
  | false =>
  cases h2 : s.toList == top.toList with
  | true =>
    rw [show underB s top = true by unfold underB; rw [h1, h2]; rfl]
    clear hs hp
    go_enter Tryz.func50, Tryz.ntmps50
    go_wp2
    go_ret
    exact ⟨rfl, rfl⟩
  | false =>
  have hu : underB s top = (prefB s top && s.data.toList[top.size]? == some 47) := by unfold underB; rw [h1, h2]; rfl
  rw [hu]
  by_cases hlt : top.size < s.size
  · have hlt' : (top.size : Int) < s.size := by omega
    have hle' : (top.size : Int) ≤ s.size := by omega
    have hg : s.data.toList[top.size]? = some s[top.size] := List.getElem?_eq_getElem hlt
    have hb : (s.data.toList[top.size]? == some 47) = ((s[top.size].toNat : Int) == 47) := by
      rw [hg, Bool.eq_iff_iff, beq_iff_eq, beq_iff_eq]
      constructor
      · intro h
        have h := Option.some.inj h
        rw [h]
        rfl
      · intro h
        congr 1
        exact UInt8.toNat.inj (by have : (47 : UInt8).toNat = 47 := rfl; omega)
    have hpt := prefix_take (s := s) (p := top)
    rw [hb, ← hpt]
    obtain ⟨T, hT⟩ : ∃ T, ((s.extract 0 top.size).toList == top.toList) = T := ⟨_, rfl⟩
    rw [hT]
    clear hs hp hu hg hb hpt
    cases T with
    | false =>
      rw [Bool.false_and]
      go_enter Tryz.func50, Tryz.ntmps50
      go_wp2
      go_ret
      exact ⟨rfl, rfl⟩
    | true =>
      rw [Bool.true_and]
      go_enter Tryz.func50, Tryz.ntmps50
      go_wp2
      go_ret
      exact ⟨rfl, rfl⟩
  · have hlt' : (s.size : Int) ≤ top.size := by omega
    have hd : decide (top.size < s.size) = false := decide_eq_false hlt
    have hg : s.data.toList[top.size]? = none := List.getElem?_eq_none (by show s.size ≤ _; omega)
    rw [hg, show ((none : Option UInt8) == some 47) = false from rfl, Bool.and_false]
    clear hs hp hu hg hlt
    go_enter Tryz.func50, Tryz.ntmps50
    go_wp2
    go_ret
    exact ⟨rfl, rfl⟩

def rMatchC (c : Cnd) (l : List Att) : Bool := l.any fun a => a.name.toList == c.name.toList && c.holds a.v

attribute [local go_sem ↓] run_load_cnd

set_option maxRecDepth 20000 in
set_option maxHeartbeats 4000000 in
theorem rmatch_at (w : World) (sc : ByteArray) (cv : Value) (cs : List Cnd) (hc : RdSl w 7 cv cs.length (cnds cs)) (hcl : cs.length ≤ 9223372036854775807) (hsc : sc.size ≤ 9223372036854775807) (hct : ∀ c ∈ cs, c.v.text.size ≤ 9223372036854775807)
    (es : ByteArray) (av : Value) (l : List Att) (hv : RdSl w 6 av l.length (atts l)) (hll : l.length ≤ 1000000) (hes : es.size ≤ 9223372036854775807) (ht : ∀ a ∈ l, a.v.text.size ≤ 9223372036854775807) :
    Calls Tryz.prog 19 #[.agg #[.string sc, cv], .agg #[.string es, av]] w fun e w' => e = .returned (.bool (underB es sc && cs.all fun c => rMatchC c l)) ∧ Mod (fun _ => False) w w' := by
  obtain ⟨a, cap, rfl, hcap⟩ : ∃ a c, cv = .slice a cs.length c ∧ cs.length ≤ c := by obtain ⟨-, a, c, h, h2, -⟩ := hc; exact ⟨a, c, h, h2⟩
  obtain ⟨b, bcap, rfl, hbcap⟩ : ∃ a c, av = .slice a l.length c ∧ l.length ≤ c := by obtain ⟨-, a, c, h, h2, -⟩ := hv; exact ⟨a, c, h, h2⟩
  have hcl' : (cs.length : Int) ≤ 9223372036854775807 := by omega
  have hll' : (l.length : Int) ≤ 1000000 := by omega
  obtain ⟨wa, hwa⟩ : ∃ wa : World, w.alloc (.cells #[.string sc, .slice a cs.length cap] 29) = wa := ⟨_, rfl⟩
  have hmwa : Mod (fun _ => False) w wa := hwa ▸ (Mod.refl (fun _ => False) w).alloc _
  have hgwa := heap_alloc_new w (.cells #[.string sc, .slice a cs.length cap] 29)
  rw [hwa] at hgwa
  have hzwa : wa.heap.size = w.heap.size + 1 := by rw [← hwa]; simp
  obtain ⟨wb, hwb⟩ : ∃ wb : World, wa.alloc (.cells #[.string es, .slice b l.length bcap] 32) = wb := ⟨_, rfl⟩
  have hmwb : Mod (fun _ => False) wa wb := hwb ▸ (Mod.refl (fun _ => False) wa).alloc _
  have hgwb := heap_alloc_new wa (.cells #[.string es, .slice b l.length bcap] 32)
  rw [hwb] at hgwb
  have hzwb : wb.heap.size = wa.heap.size + 1 := by rw [← hwb]; simp
  have hmb := hmwa.trans hmwb (fun _ _ h => h)
  have hF := hmwb.heap hgwa (fun h => h)
  have f0 : wb.cell? ⟨w.heap.size, 0, none⟩ = some (.string sc) := cell_of hF rfl
  have f1 : wb.cell? ⟨w.heap.size, 1, none⟩ = some (.slice a cs.length cap) := cell_of hF rfl
  have e0 : wb.cell? ⟨wa.heap.size, 0, none⟩ = some (.string es) := cell_of hgwb rfl
  have e1 : wb.cell? ⟨wa.heap.size, 1, none⟩ = some (.slice b l.length bcap) := cell_of hgwb rfl
  have hun := runder_at es sc hes hsc wb
  obtain ⟨R, hR⟩ : ∃ R, (underB es sc && cs.all fun c => rMatchC c l) = R := ⟨_, rfl⟩
  rw [hR]
  have hqz : w.heap.size < wa.heap.size := by omega
  have Hc := Lib.hid hc
  have Hv := Lib.hid hv
  have Hct := Lib.hid hct
  have Ht := Lib.hid ht
  have Hwa := Lib.hid hwa
  have Hwb := Lib.hid hwb
  have Hmb := Lib.hid hmb
  have HF := Lib.hid hF
  have Hgwb := Lib.hid hgwb
  have Hun := Lib.hid hun
  have HR := Lib.hid hR
  clear hc hv hct ht hwa hwb hmb hF hgwb hun hR hmwa hmwb hgwa hzwa hzwb hcl hll hsc hes
  go_enter Tryz.func19, Tryz.ntmps19
  go_wp2_with (first | (rw [show w.alloc _ = wa from Hwa.out]) | (rw [show wa.alloc _ = wb from Hwb.out]) | fail)
  refine Hun.out.mono ?_
  rintro e w1 ⟨rfl, rfl⟩
  cases hu : underB es sc with
  | false =>
    have Hu := Lib.hid hu
    clear hu
    go_wp2
    go_ret
    exact ⟨ret_bool (by rw [← HR.out, Hu.out]; rfl), Hmb.out⟩
  | true =>
  have HR := Lib.hid (show (cs.all fun c => rMatchC c l) = R by rw [← HR.out, hu]; rfl)
  clear hu Hun f0 f1 e0 e1
  go_wp2_with fail
  go_loopw [5] (fun i wr => ∃ j : Nat, i = .int .i64 j ∧ j ≤ cs.length ∧ Mod (fun _ => False) w1 wr ∧ (∀ (k : Nat) (x : Cnd), k < j → cs[k]? = some x → rMatchC x l = true)) (fun i _ => cs.length - (intOf i).toNat)
  case atStart => exact ⟨0, rfl, Nat.zero_le _, Mod.refl _ _, fun k x hk => by omega⟩
  case round =>
    obtain ⟨wo, rfl⟩ : ∃ wo : World, wo = wr := ⟨_, rfl⟩
    obtain ⟨i, rfl, hi, hmr, hall⟩ := hrel
    have hFr := hmr.heap HF.out (fun h => h)
    have f1 : wo.cell? ⟨w.heap.size, 1, none⟩ = some (.slice a cs.length cap) := cell_of hFr rfl
    by_cases hlt : i < cs.length
    · have hlt' : (i : Int) < cs.length := by omega
      obtain ⟨c, hci⟩ : ∃ x, cs[i]? = some x := ⟨_, List.getElem?_eq_getElem hlt⟩
      have hcm := List.mem_of_getElem? hci
      have hm0r := Hmb.out.trans hmr (fun _ _ h => h)
      obtain ⟨g, off, rfl, hcc⟩ : ∃ g off, a = some ⟨g, off, none⟩ ∧ CellsAt wo g (off + i * 7) c.cells := rd_cnd (Hc.out.mod hm0r (fun _ _ h => h)) hci
      have hEr := hmr.heap Hgwb.out (fun h => h)
      have Hmr := Lib.hid hmr
      have Hall := Lib.hid hall
      have Hci := Lib.hid hci
      have Hcm := Lib.hid hcm
      have Hcc := Lib.hid hcc
      have HFr := Lib.hid hFr
      have Hm0r := Lib.hid hm0r
      have HEr := Lib.hid hEr
      clear hmr hall hci hcm hcc hFr hm0r hEr
      go_wp2_with fail
      go_loopw [6, 7] (fun ok jv wr => ∃ j : Nat, jv = .int .i64 j ∧ j ≤ l.length ∧ Mod (fun _ => False) wo wr ∧ ok = .bool (rMatchC c (l.take j))) (fun _ jv _ => l.length - (intOf jv).toNat)
      case atStart => exact ⟨0, rfl, Nat.zero_le _, Mod.refl _ _, rfl⟩
      case round =>
        obtain ⟨j, rfl, hj, hmq, rfl⟩ := hrel
        have hEq := hmq.heap HEr.out (fun h => h)
        have hFq := hmq.heap HFr.out (fun h => h)
        have e1 : wr.cell? ⟨wa.heap.size, 1, none⟩ = some (.slice b l.length bcap) := cell_of hEq rfl
        by_cases hlj : j < l.length
        · have hlj' : (j : Int) < l.length := by omega
          obtain ⟨x, hxj⟩ : ∃ x, l[j]? = some x := ⟨_, List.getElem?_eq_getElem hlj⟩
          have hm0q := Hm0r.out.trans hmq (fun _ _ h => h)
          obtain ⟨ag, aoff, rfl, hxc⟩ : ∃ ag aoff, b = some ⟨ag, aoff, none⟩ ∧ CellsAt wr ag (aoff + j * 6) x.cells := rd_att (Hv.out.mod hm0q (fun _ _ h => h)) hxj
          have hcq := Hcc.out.mod hmq (fun h => h)
          have hh := rholds_at c x.v (Hct.out c Hcm.out) (Ht.out x (List.mem_of_getElem? hxj))
          have hstep : rMatchC c (l.take (j + 1)) = (rMatchC c (l.take j) || (x.name.toList == c.name.toList && c.holds x.v)) := by
            unfold rMatchC
            rw [List.take_add_one, List.any_append, hxj]
            simp
          have hf : ∀ w', Mod (fun _ => False) wr w' → w'.cell? ⟨wa.heap.size, 1, none⟩ = some (.slice (some ⟨ag, aoff, none⟩) l.length bcap) ∧ w'.cell? ⟨w.heap.size, 1, none⟩ = some (.slice (some ⟨g, off, none⟩) cs.length cap) ∧
              w'.cell? ⟨ag, aoff + j * 6, none⟩ = some (.string x.name) ∧ AllCells w' ag (aoff + j * 6 + 1) 5 ∧ cellsOf w' ag (aoff + j * 6 + 1) 5 = x.v.cells.toArray ∧
              w'.cell? ⟨g, off + i * 7, none⟩ = some (.string c.name) ∧ AllCells w' g (off + i * 7) 7 ∧ cellsOf w' g (off + i * 7) 7 = c.cells.toArray := fun w' hw' => by
            have hx2 := hxc.mod hw' (fun h => h)
            have hc2 := hcq.mod hw' (fun h => h)
            have hx3 : CellsAt w' ag (aoff + j * 6 + 1) x.v.cells := fun q u hu => by
              have := hx2 (q + 1) u (by simpa [Att.cells] using hu)
              rw [show aoff + j * 6 + 1 + q = aoff + j * 6 + (q + 1) by omega]
              exact this
            exact ⟨cell_of (hw'.heap hEq (fun h => h)) rfl, cell_of (hw'.heap hFq (fun h => h)) rfl, hx2 0 _ rfl, hx3.all rfl, hx3.is rfl, hc2 0 _ rfl, hc2.all rfl, hc2.is rfl⟩
          have hh2 : ∀ w', Mod (fun _ => False) wr w' → Calls Tryz.prog 51 #[.agg c.cells.toArray, .agg x.v.cells.toArray] w' fun e w'' => e = .returned (.bool (c.holds x.v)) ∧ Mod (fun _ => False) wr w'' :=
            fun w' hw' => (hh w').mono fun e w'' h => ⟨h.1, hw'.trans h.2 (fun _ _ h => h)⟩
          obtain ⟨acc, hacc⟩ : ∃ q, rMatchC c (l.take j) = q := ⟨_, rfl⟩
          obtain ⟨H, hH⟩ : ∃ q, c.holds x.v = q := ⟨_, rfl⟩
          rw [hacc, hH] at hstep
          rw [hacc]
          rw [hH] at hh2
          have Hmq := Lib.hid hmq
          have Hxj := Lib.hid hxj
          have Hxc := Lib.hid hxc
          have Hcq := Lib.hid hcq
          have Hf := Lib.hid hf
          have Hh2 := Lib.hid hh2
          have Hstep := Lib.hid hstep
          clear hmq hxj hxc hcq hf hh2 hstep hFq hEq hm0q hacc hH hh
          cases hnm : x.name.toList == c.name.toList with
          | false =>
            have Hstep := Lib.hid (show rMatchC c (l.take (j + 1)) = acc by rw [Hstep.out, hnm, Bool.false_and, Bool.or_false])
            go_wp2_with fail
            refine wp_region_news (by kernel_rfl) (by kernel_rfl) ?_
            iterate 27 (first
              | (refine quiet_skip ?_ (fun K hK => ?_)
                 · first | (go_simp; done) | (go_simp; simp [undef]; done)
                 go_simp; refine hK _ ?_; clear hK K)
              | (refine quiet_do ?_ ?_ (fun w' hw' => ?_) (fun K hK => ?_)
                 · first | (go_simp; done) | (go_simp; simp [undef]; done)
                 rotate_left
                 · obtain ⟨f1, f2, f3, f4, f5, f6, f7, f8⟩ := Hf.out w' hw'
                   go_simp
                   rfl
                 go_simp; refine hK _ ?_; clear hK K)
              | (refine quiet_in ?_ ?_ ?_ ?_ (fun w' hw' => ?_) ?_ (fun K hK => ?_)
                 · first | (go_simp; done) | (go_simp; simp [undef]; done)
                 rotate_left 3
                 · obtain ⟨f1, f2, f3, f4, f5, f6, f7, f8⟩ := Hf.out w' hw'
                   go_simp
                   constructor <;> rfl
                 · first | exact Hh2.out
                 go_simp; refine hK _ ?_; clear hK K))
            refine quiet_end (fun w' hw' => ?_)
            have Hw' := Lib.hid (Hmq.out.trans hw' (fun _ _ h => h))
            clear hw' hnm
            go_wp2_with fail
            go_roundw
            case rel => exact ⟨j + 1, by go_num, hlj, Hw'.out, by rw [Hstep.out]⟩
            case measure => simp [intOf]; omega
          | true =>
            have Hstep := Lib.hid (show rMatchC c (l.take (j + 1)) = (acc || H) by rw [Hstep.out, hnm, Bool.true_and])
            cases H with
            | false =>
              have Hstep := Lib.hid (show rMatchC c (l.take (j + 1)) = acc by rw [Hstep.out, Bool.or_false])
              go_wp2_with fail
              refine wp_region_news (by kernel_rfl) (by kernel_rfl) ?_
              iterate 27 (first
                | (refine quiet_skip ?_ (fun K hK => ?_)
                   · first | (go_simp; done) | (go_simp; simp [undef]; done)
                   go_simp; refine hK _ ?_; clear hK K)
                | (refine quiet_do ?_ ?_ (fun w' hw' => ?_) (fun K hK => ?_)
                   · first | (go_simp; done) | (go_simp; simp [undef]; done)
                   rotate_left
                   · obtain ⟨f1, f2, f3, f4, f5, f6, f7, f8⟩ := Hf.out w' hw'
                     go_simp
                     rfl
                   go_simp; refine hK _ ?_; clear hK K)
                | (refine quiet_in ?_ ?_ ?_ ?_ (fun w' hw' => ?_) ?_ (fun K hK => ?_)
                   · first | (go_simp; done) | (go_simp; simp [undef]; done)
                   rotate_left 3
                   · obtain ⟨f1, f2, f3, f4, f5, f6, f7, f8⟩ := Hf.out w' hw'
                     go_simp
                     constructor <;> rfl
                   · first | exact Hh2.out
                   go_simp; refine hK _ ?_; clear hK K))
              refine quiet_end (fun w' hw' => ?_)
              have Hw' := Lib.hid (Hmq.out.trans hw' (fun _ _ h => h))
              clear hw' hnm
              go_wp2_with fail
              go_roundw
              case rel => exact ⟨j + 1, by go_num, hlj, Hw'.out, by rw [Hstep.out]⟩
              case measure => simp [intOf]; omega
            | true =>
              have Hstep := Lib.hid (show rMatchC c (l.take (j + 1)) = true by rw [Hstep.out, Bool.or_true])
              go_wp2_with fail
              refine wp_region_news (by kernel_rfl) (by kernel_rfl) ?_
              iterate 27 (first
                | (refine quiet_skip ?_ (fun K hK => ?_)
                   · first | (go_simp; done) | (go_simp; simp [undef]; done)
                   go_simp; refine hK _ ?_; clear hK K)
                | (refine quiet_do ?_ ?_ (fun w' hw' => ?_) (fun K hK => ?_)
                   · first | (go_simp; done) | (go_simp; simp [undef]; done)
                   rotate_left
                   · obtain ⟨f1, f2, f3, f4, f5, f6, f7, f8⟩ := Hf.out w' hw'
                     go_simp
                     rfl
                   go_simp; refine hK _ ?_; clear hK K)
                | (refine quiet_in ?_ ?_ ?_ ?_ (fun w' hw' => ?_) ?_ (fun K hK => ?_)
                   · first | (go_simp; done) | (go_simp; simp [undef]; done)
                   rotate_left 3
                   · obtain ⟨f1, f2, f3, f4, f5, f6, f7, f8⟩ := Hf.out w' hw'
                     go_simp
                     constructor <;> rfl
                   · first | exact Hh2.out
                   go_simp; refine hK _ ?_; clear hK K))
              refine quiet_end (fun w' hw' => ?_)
              have Hw' := Lib.hid (Hmq.out.trans hw' (fun _ _ h => h))
              clear hw' hnm
              go_wp2_with fail
              go_roundw
              case rel => exact ⟨j + 1, by go_num, hlj, Hw'.out, by rw [Hstep.out]⟩
              case measure => simp [intOf]; omega
        · obtain rfl : j = l.length := by omega
          rw [List.take_length]
          have hmq1 := Hmr.out.trans hmq (fun _ _ h => h)
          obtain ⟨acc, hacc⟩ : ∃ q, rMatchC c l = q := ⟨_, rfl⟩
          rw [hacc]
          have Hmq1 := Lib.hid hmq1
          have Hacc := Lib.hid hacc
          clear hmq1 hacc hmq hFq hEq
          cases acc with
          | true =>
            go_wp2_with fail
            go_roundw
            case rel =>
              refine ⟨i + 1, by go_num, hlt, Hmq1.out, fun k x' hk hx' => ?_⟩
              rcases Nat.lt_succ_iff_lt_or_eq.1 hk with hk | rfl
              · exact Hall.out k x' hk hx'
              · rw [Hci.out] at hx'; cases hx'; exact Hacc.out
            case measure => simp [intOf]; omega
          | false =>
            go_wp2
            go_ret
            exact ⟨ret_bool (by rw [← HR.out, List.all_eq_false.2 ⟨c, Hcm.out, by rw [Hacc.out]; decide⟩]), Hmb.out.trans Hmq1.out (fun _ _ h => h)⟩
    · obtain rfl : i = cs.length := by omega
      have hfr : R = true := by
        rw [← HR.out, List.all_eq_true.2 fun x hx => by
          obtain ⟨k, hk⟩ := List.mem_iff_getElem?.1 hx
          exact hall k x (List.getElem?_eq_some_iff.1 hk).1 hk]
      have hm2 := Hmb.out.trans hmr (fun _ _ h => h)
      have Hfr := Lib.hid hfr
      have Hm2 := Lib.hid hm2
      clear hfr hm2 hall hmr hFr
      go_wp2
      go_ret
      exact ⟨ret_bool Hfr.out, Hm2.out⟩
end Go.Proofs.YtloplmaekonenaaGreatDoor
