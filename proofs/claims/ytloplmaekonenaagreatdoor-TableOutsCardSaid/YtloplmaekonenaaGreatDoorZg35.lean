/-
  filter.Covers over whatever cond.Implies answers; acl.MayObserve over whatever filter.Covers answers.
  maps.Copy of a map of filters; package table: covered.
  Package table: covered.
-/
import Derived.Test.YtloplmaekonenaaGreatDoorZg19
import Derived.Test.YtloplmaekonenaaGreatDoorZg18
import Derived.Test.YtloplmaekonenaaGreatDoorZg34
import Derived.Test.YtloplmaekonenaaGreatDoorZg20
namespace Go.Proofs.YtloplmaekonenaaGreatDoor
set_option maxRecDepth 20000
open Go.RowKit

theorem callCov1 : ∀ (args : Array Value) (W : World), Sem.run Tryz.prog (callFunc 138 args) W = .ok (.enter 138 args) W := fun args w => by simp [go_sem]

/-- The closure: c is captured. -/
theorem cov1_at (p : Bool) (c d : Cnd) (k : Nat) (w : World) (hk : w.heap[k]? = some (.cells c.cells.toArray 81 (0, 0)))
    (hp : ∀ wx, Mod (fun _ => False) w wx → Calls Tryz.prog 133 #[.agg d.cells.toArray, .agg c.cells.toArray] wx fun e w' => e = .returned (.bool p) ∧ Mod (fun _ => False) wx w') :
    Calls Tryz.prog 138 (#[.agg d.cells.toArray] ++ #[.pointer (some ⟨k, 0, none⟩)]) w fun e w' => e = .returned (.bool p) ∧ Mod (fun _ => False) w w' := by
  obtain ⟨wa, hwa⟩ : ∃ wa : World, w.alloc (.cells d.cells.toArray 81) = wa := ⟨_, rfl⟩
  have hmwa : Mod (fun _ => False) w wa := hwa ▸ (Mod.refl (fun _ => False) w).alloc _
  have hgwa := heap_alloc_new w (.cells d.cells.toArray 81)
  rw [hwa] at hgwa
  have hzwa : wa.heap.size = w.heap.size + 1 := by rw [← hwa]; simp
  have hkl := (Array.getElem?_eq_some_iff.1 hk).1
  have hka := hmwa.heap hk (fun h => h)
  have hpa := hp wa hmwa
  have Hwa := Lib.hid hwa
  have Hmwa := Lib.hid hmwa
  have Hgwa := Lib.hid hgwa
  have Hka := Lib.hid hka
  have Hpa := Lib.hid hpa
  clear hwa hmwa hgwa hka hpa hzwa hk hp
  show Calls Tryz.prog 138 #[.agg d.cells.toArray, .pointer (some ⟨k, 0, none⟩)] w _
  go_enter Tryz.func138, Tryz.ntmps138
  go_wp2_with (first | (rw [show w.alloc _ = wa from Hwa.out]) | ((with_reducible refine wpList_load_lit 81 (.tmp 2) ?_); refine ⟨w.heap.size, 0, rfl, d.cells, CellsAt.row Hgwa.out, by kernel_rfl, by kernel_rfl, ?_⟩) | ((with_reducible refine wpList_load_lit 81 (.tmp 1) ?_); refine ⟨k, 0, rfl, c.cells, CellsAt.row Hka.out, by kernel_rfl, by kernel_rfl, ?_⟩) | fail)
  refine Hpa.out.mono ?_
  rintro e w2 ⟨rfl, hm2⟩
  have Hm2 := Lib.hid (Hmwa.out.trans hm2 (fun _ _ h => h))
  clear hm2
  go_wp2
  go_ret
  exact ⟨rfl, Hm2.out⟩

set_option maxHeartbeats 4000000 in
theorem covers_over (f : Cnd → Cnd → Bool) (w : World) (sc : ByteArray) (cv : Value) (l : List Cnd) (hv : RdSl w 7 cv l.length (cnds l)) (hll : l.length ≤ 9223372036854775807) (hsc : sc.size ≤ 9223372036854775807)
    (gs : ByteArray) (gv : Value) (m : List Cnd) (hg : RdSl w 7 gv m.length (cnds m)) (hml : m.length ≤ 9223372036854775807) (hgs : gs.size ≤ 9223372036854775807)
    (hp : ∀ d ∈ m, ∀ c ∈ l, ∀ wx, Mod (fun _ => False) w wx → Calls Tryz.prog 133 #[.agg d.cells.toArray, .agg c.cells.toArray] wx fun e w' => e = .returned (.bool (f d c)) ∧ Mod (fun _ => False) wx w') :
    Calls Tryz.prog 97 #[.agg #[.string sc, cv], .agg #[.string gs, gv]] w fun e w' => e = .returned (.bool (m.any Cnd.voidB || (l.all (fun c => m.any fun d => f d c) && underB gs sc))) ∧ Mod (fun _ => False) w w' := by
  obtain ⟨a, cap, rfl, hcap⟩ : ∃ a c, cv = .slice a l.length c ∧ l.length ≤ c := by obtain ⟨-, a, c, h, h2, -⟩ := hv; exact ⟨a, c, h, h2⟩
  obtain ⟨ga, gcap, rfl, hgcap⟩ : ∃ a c, gv = .slice a m.length c ∧ m.length ≤ c := by obtain ⟨-, a, c, h, h2, -⟩ := hg; exact ⟨a, c, h, h2⟩
  have hll' : (l.length : Int) ≤ 9223372036854775807 := by omega
  have hcap' : (l.length : Int) ≤ cap := by omega
  obtain ⟨wa, hwa⟩ : ∃ wa : World, w.alloc (.cells #[.string sc, .slice a l.length cap] 29) = wa := ⟨_, rfl⟩
  have hmwa : Mod (fun _ => False) w wa := hwa ▸ (Mod.refl (fun _ => False) w).alloc _
  have hgwa := heap_alloc_new w (.cells #[.string sc, .slice a l.length cap] 29)
  rw [hwa] at hgwa
  have hzwa : wa.heap.size = w.heap.size + 1 := by rw [← hwa]; simp
  obtain ⟨wb, hwb⟩ : ∃ wb : World, wa.alloc (.cells #[.string gs, .slice ga m.length gcap] 29) = wb := ⟨_, rfl⟩
  have hmwb : Mod (fun _ => False) wa wb := hwb ▸ (Mod.refl (fun _ => False) wa).alloc _
  have hgwb := heap_alloc_new wa (.cells #[.string gs, .slice ga m.length gcap] 29)
  rw [hwb] at hgwb
  have hzwb : wb.heap.size = wa.heap.size + 1 := by rw [← hwb]; simp
  have hmb := hmwa.trans hmwb (fun _ _ h => h)
  have hF := hmwb.heap hgwa (fun h => h)
  have d0 : wb.cell? ⟨wa.heap.size, 0, none⟩ = some (.string gs) := cell_of hgwb rfl
  have d1 : wb.cell? ⟨wa.heap.size, 1, none⟩ = some (.slice ga m.length gcap) := cell_of hgwb rfl
  have hvd := filter_void wb gs (.slice ga m.length gcap) m (hg.mod hmb (fun _ _ h => h)) hml
  obtain ⟨R, hR⟩ : ∃ R, (m.any Cnd.voidB || (l.all (fun c => m.any fun d => f d c) && underB gs sc)) = R := ⟨_, rfl⟩
  rw [hR]
  have hqz : w.heap.size < wa.heap.size := by omega
  have Hv := Lib.hid hv
  have Hg := Lib.hid hg
  have Hp := Lib.hid hp
  have Hwa := Lib.hid hwa
  have Hwb := Lib.hid hwb
  have Hmb := Lib.hid hmb
  have HF := Lib.hid hF
  have Hgwb := Lib.hid hgwb
  have Hvd := Lib.hid hvd
  have HR := Lib.hid hR
  have Hsc := Lib.hid hsc
  have Hgs := Lib.hid hgs
  have Hml := Lib.hid hml
  clear hv hg hp hwa hwb hmb hF hgwb hvd hR hsc hgs hml hmwa hmwb hgwa hzwa hzwb hll
  go_enter Tryz.func97, Tryz.ntmps97
  go_wp2_with (first | (rw [show w.alloc _ = wa from Hwa.out]) | (rw [show wa.alloc _ = wb from Hwb.out]) | fail)
  refine Hvd.out.mono ?_
  rintro e w1 ⟨rfl, hm1⟩
  have hm01 := Hmb.out.trans hm1 (fun _ _ h => h)
  have hF1 := hm1.heap HF.out (fun h => h)
  have hG1 := hm1.heap Hgwb.out (fun h => h)
  have c1 : w1.cell? ⟨w.heap.size, 1, none⟩ = some (.slice a l.length cap) := cell_of hF1 rfl
  have hv1 := Hv.out.mod hm01 (fun _ _ h => h)
  have Hm01 := Lib.hid hm01
  have HF1 := Lib.hid hF1
  have HG1 := Lib.hid hG1
  have Hv1 := Lib.hid hv1
  clear hm01 hF1 hG1 hv1 hm1 d0 d1 Hvd
  cases hvo : m.any Cnd.voidB with
  | true =>
    have Hvo := Lib.hid hvo
    clear hvo
    go_wp2
    go_ret
    exact ⟨by rw [← HR.out, Hvo.out]; rfl, Hm01.out⟩
  | false =>
  have HR := Lib.hid (show (l.all (fun c => m.any fun d => f d c) && underB gs sc) = R by rw [← HR.out, hvo]; rfl)
  clear hvo
  go_wp2_with fail
  go_loopw [12] (fun i wr => ∃ j : Nat, i = .int .i64 j ∧ j ≤ l.length ∧ Mod (fun _ => False) w1 wr ∧ (∀ (k : Nat) (x : Cnd), k < j → l[k]? = some x → (m.any fun d => f d x) = true)) (fun i _ => l.length - (intOf i).toNat)
  case atStart => exact ⟨0, rfl, Nat.zero_le _, Mod.refl _ _, fun k x hk => by omega⟩
  case round =>
    obtain ⟨j, rfl, hj, hmr, hall⟩ := hrel
    by_cases hlt : j < l.length
    · have hlt' : (j : Int) < l.length := by omega
      obtain ⟨x, hxj⟩ : ∃ x, l[j]? = some x := ⟨_, List.getElem?_eq_getElem hlt⟩
      have hxm := List.mem_of_getElem? hxj
      obtain ⟨g, off, rfl, hf⟩ : ∃ g off, a = some ⟨g, off, none⟩ ∧ CellsAt wr g (off + j * 7) x.cells := rd_cnd (Hv1.out.mod hmr (fun _ _ h => h)) hxj
      obtain ⟨wz, hwz⟩ : ∃ wz : World, wr.alloc (.cells x.cells.toArray 81) = wz := ⟨_, rfl⟩
      have hmwz : Mod (fun _ => False) wr wz := hwz ▸ (Mod.refl (fun _ => False) wr).alloc _
      have hgwz := heap_alloc_new wr (.cells x.cells.toArray 81)
      rw [hwz] at hgwz
      have hzwz : wz.heap.size = wr.heap.size + 1 := by rw [← hwz]; simp
      have hmz := hmr.trans hmwz (fun _ _ h => h)
      have hm0z := Hm01.out.trans hmz (fun _ _ h => h)
      have hge := hmz.heap HG1.out (fun h => h)
      have e1 : wz.cell? ⟨wa.heap.size, 1, none⟩ = some (.slice ga m.length gcap) := cell_of hge rfl
      have hct := contains_at 138 #[.pointer (some ⟨wr.heap.size, 0, none⟩)] callCov1 (fun d => f d x) wz (.slice ga m.length gcap) m (Hg.out.mod hm0z (fun _ _ h => h)) Hml.out
        (fun d hd wx hwx => cov1_at (f d x) x d wr.heap.size wx (hwx.heap hgwz (fun h => h)) (fun wy hwy => Hp.out d hd x hxm wy ((hm0z.trans hwx (fun _ _ h => h)).trans hwy (fun _ _ h => h))))
      have hmf : ∀ (fn : Fn) (first cap : Array Value) (w : World), (Instr.makeFunc fn first cap).run Tryz.prog w = .ok (.func fn first cap) w := fun _ _ _ _ => rfl
      have Hmr := Lib.hid hmr
      have Hall := Lib.hid hall
      have Hxj := Lib.hid hxj
      have Hxm := Lib.hid hxm
      have Hf := Lib.hid hf
      have Hwz := Lib.hid hwz
      have Hgwz := Lib.hid hgwz
      have Hmz := Lib.hid hmz
      have Hct := Lib.hid hct
      have Hm0z := Lib.hid hm0z
      clear hmr hall hxj hxm hf hwz hgwz hmz hct hm0z hzwz hmwz hge c1
      go_wp2_with (first | ((with_reducible refine wpList_load_lit 81 (.tmp 14) ?_); refine ⟨g, off + j * 7, rfl, x.cells, Hf.out, by kernel_rfl, by kernel_rfl, ?_⟩) | ((with_reducible refine wpList_store_lit 81 (.tmp 6) (.tmp 15) ?_); refine ⟨rfl, x.cells, rfl, rfl, by kernel_rfl, rfl, ?_⟩; rw [Hwz.out]) | fail)
      refine Hct.out.mono ?_
      rintro e w3 ⟨rfl, hm3⟩
      have Hm3 := Lib.hid (Hmz.out.trans hm3 (fun _ _ h => h))
      clear hm3 e1
      cases hs : m.any (fun d => f d x) with
      | true =>
        have Hs := Lib.hid hs
        clear hs
        go_wp2_with fail
        go_roundw
        case rel =>
          refine ⟨j + 1, by go_num, hlt, Hm3.out, fun k x' hk hx' => ?_⟩
          rcases Nat.lt_succ_iff_lt_or_eq.1 hk with hk | rfl
          · exact Hall.out k x' hk hx'
          · rw [Hxj.out] at hx'; cases hx'; exact Hs.out
        case measure => simp [intOf]; omega
      | false =>
        have Hs := Lib.hid hs
        clear hs
        go_wp2
        go_ret
        refine ⟨?_, Hm01.out.trans Hm3.out (fun _ _ h => h)⟩
        rw [← HR.out, List.all_eq_false.2 ⟨x, Hxm.out, by rw [Hs.out]; decide⟩, Bool.false_and]
        rfl
    · obtain rfl : j = l.length := by omega
      have hgr := hmr.heap HF1.out (fun h => h)
      have hge := hmr.heap HG1.out (fun h => h)
      have c0 : wr.cell? ⟨w.heap.size, 0, none⟩ = some (.string sc) := cell_of hgr rfl
      have e0 : wr.cell? ⟨wa.heap.size, 0, none⟩ = some (.string gs) := cell_of hge rfl
      have hun := under_at gs sc Hgs.out Hsc.out wr
      have hfr : R = underB gs sc := by
        rw [← HR.out, List.all_eq_true.2 fun x hx => by
          obtain ⟨k, hk⟩ := List.mem_iff_getElem?.1 hx
          exact hall k x (List.getElem?_eq_some_iff.1 hk).1 hk, Bool.true_and]
      have hmr2 := Hm01.out.trans hmr (fun _ _ h => h)
      have Hmr2 := Lib.hid hmr2
      have Hun := Lib.hid hun
      have Hfr := Lib.hid hfr
      clear hmr2 hun hfr hmr hall hgr hge
      go_wp2_with fail
      refine Hun.out.mono ?_
      rintro e w3 ⟨rfl, rfl⟩
      go_wp2
      go_ret
      refine ⟨?_, Hmr2.out⟩
      rw [Hfr.out]
      rfl

end Go.Proofs.YtloplmaekonenaaGreatDoor

namespace Go.Proofs.YtloplmaekonenaaGreatDoor
set_option maxRecDepth 20000
open Go.RowKit

/-- A round of Copy. -/
def CopyRel (w : World) (own C : Nat → Prop) (md ms r B : Nat) (fs : Lit → Option Value) (gs gd : List UInt8 → Option Fil) (wr : World) : Prop :=
  ∃ (left : Lit → Bool) (cnt n : Nat) (g : List UInt8 → Option Fil) (fm : Lit → Option Value), MapR wr 9 md n fm ∧ n + cnt ≤ B ∧ (∀ k, FilIs wr own C (fm (.string k)) (g k)) ∧ RngR wr 9 ms r fs left cnt ∧
    (∀ k, g k = if (gs k).isSome && !left (.string k) then gs k else gd k) ∧ Mod (fun k => k = md) w wr
theorem FilIs.some {w : World} {own C : Nat → Prop} {v : Option Value} {q : Option Fil} (h : FilIs w own C v q) : v.isSome = q.isSome := by
  cases v <;> cases q
  · rfl
  · exact h.elim
  · exact h.elim
  · rfl

set_option maxHeartbeats 4000000 in
theorem mcopy_at (w : World) (own C : Nat → Prop) (md ms Nd ns : Nat) (gd gs : List UInt8 → Option Fil) (fs : Lit → Option Value) (hd : KAt w own C md Nd gd) (hs : MapR w 9 ms ns fs) (hsv : ∀ k, FilIs w own C (fs (.string k)) (gs k)) (hne : md ≠ ms) (hC : ¬ C md) (hCl : ∀ k, C k → k < w.heap.size) (hB : Nd + ns ≤ 1000000000) :
    Calls Tryz.prog 55 #[.map (some md), .map (some ms)] w fun e w' => e = .returned (.tuple #[]) ∧ KAt w' own C md (Nd + ns) (fun k => (gs k).or (gd k)) ∧ Mod (fun k => k = md) w w' := by
  obtain ⟨n0, fd, h1, h2, h3⟩ := hd
  have hmdl := h1.lt
  have hmsl := hs.lt
  have Hs := Lib.hid hs
  have Hsv := Lib.hid hsv
  have H1 := Lib.hid h1
  have H2 := Lib.hid h2
  have H3 := Lib.hid h3
  clear hs hsv h1 h2 h3
  go_enter Tryz.func55, Tryz.ntmps55
  go_wp2_with (first | ((at_range; refine wpList_range_R rfl _ 61 rfl 9 29 keyed_s Tryz.underlying61 ms ns fs rfl Hs.out ?_; intro wF hrg hmF hzF)) | fail)
  have hrel0 : CopyRel w own C md ms w.heap.size (Nd + ns) fs gs gd wF := ⟨_, _, n0, gd, fd, H1.out.mod hmF (fun h => h), by have := H2.out; omega, fun k => (H3.out k).mod2 hmF (fun _ _ h => h.elim), hrg, fun k => by
    have e := (Hsv.out k).some
    rw [e]
    cases (gs k).isSome <;> rfl, hmF.mono (fun _ _ h => h.elim)⟩
  have Hrel0 := Lib.hid hrel0
  have Hrg := Lib.hid hrg
  have HmF := Lib.hid hmF
  clear hrel0 hrg hmF hzF
  go_frame
  go_loopw [8] (fun _ wr => CopyRel w own C md ms w.heap.size (Nd + ns) fs gs gd wr) (fun _ wr => wr.rangeLeft ms w.heap.size)
  case atStart => exact Hrel0.out
  case round =>
    revert wr
    intro wl hrel
    obtain ⟨left, cnt, n, g, fm, hm1, hn, hv, hrg, hg, hmr⟩ := hrel
    have Hm1 := Lib.hid hm1
    have Hv := Lib.hid hv
    have Hg := Lib.hid hg
    have Hmr := Lib.hid hmr
    clear hm1 hv hg hmr
    go_wp2_with (first | ((at_next; refine wpList_next_R rfl _ rfl 9 keyed_s encStr Lit.string (inv_s _ Tryz.underlying9) (in_s _ Tryz.underlying9) ms w.heap.size fs left cnt rfl hrg ?_ ?_)) | fail)
    · intro hl0
      have hK : KAt wl own C md (Nd + ns) (fun k => (gs k).or (gd k)) := ⟨n, fm, Hm1.out, by omega, fun k => by
        have h := Hv.out k
        rw [Hg.out k, hl0] at h
        show FilIs wl own C _ ((gs k).or (gd k))
        cases hk : gs k with
        | none => rw [hk] at h; exact h
        | some q => rw [hk] at h; exact h⟩
      have Hrg := Lib.hid hrg
      have Hl0 := Lib.hid hl0
      have HK := Lib.hid hK
      clear hrg hl0 hK
      go_wp2_with fail
      go_end0
      exact ⟨rfl, HK.out, Hmr.out⟩
    · intro k c wu cnt' hkey hlk hfc hrg' hlt2 hmu hzu hen
      obtain ⟨fr, hfv, hfq, hfr⟩ := fil_fr (Hsv.out k) (fun h => by have h1 := (Hsv.out k).some; rw [hfc, h] at h1; cases h1)
      rw [hfc] at hfv
      obtain rfl := Option.some.inj hfv
      obtain ⟨wv, hwv⟩ : ∃ wv : World, wu.alloc (.cells #[.string fr.sc, .slice fr.a fr.cs.length fr.c] 29) = wv := ⟨_, rfl⟩
      have hmwv : Mod (fun _ => False) wu wv := hwv ▸ (Mod.refl (fun _ => False) wu).alloc _
      have hgwv := heap_alloc_new wu (.cells #[.string fr.sc, .slice fr.a fr.cs.length fr.c] 29)
      rw [hwv] at hgwv
      have hzwv : wv.heap.size = wu.heap.size + 1 := by rw [← hwv]; simp
      have hmlu : Mod (fun _ => False) w wl → True := fun _ => trivial
      have hlsz := Hmr.out.size
      have hm1v := (Hm1.out.mod hmu (fun h => by have h' : md = w.heap.size := h; omega)).mod hmwv (fun h => h)
      have v2 : wv.cell? ⟨wu.heap.size, 0, none⟩ = some (.string fr.sc) := cell_of hgwv rfl
      have v3 : wv.cell? ⟨wu.heap.size, 1, none⟩ = some (.slice fr.a fr.cs.length fr.c) := cell_of hgwv rfl
      have hrgv := hrg'.mod hmwv (fun h => h) (fun h => h)
      have hmwv1 : Mod (fun k => k = md) w wv := (Hmr.out.upon hmu (fun k hk => .inr (Nat.le_of_eq (Eq.symm hk)))).trans hmwv (fun _ _ h => h.elim)
      have hnm : n < maxLen := by unfold maxLen; omega
      have Hkey := Lib.hid hkey
      have Hlk := Lib.hid hlk
      have Hfc := Lib.hid hfc
      have Hrg' := Lib.hid hrg'
      have Hmu := Lib.hid hmu
      have Hzu := Lib.hid hzu
      have Hfq := Lib.hid hfq
      have Hfr := Lib.hid hfr
      have Hwv := Lib.hid hwv
      have Hmwv := Lib.hid hmwv
      have Hgwv := Lib.hid hgwv
      have Hrgv := Lib.hid hrgv
      have Hm1v := Lib.hid hm1v
      have Hmwv1 := Lib.hid hmwv1
      have Hrg := Lib.hid hrg
      clear hkey hlk hfc hrg' hmu hzu hfq hfr hwv hmwv hgwv hrgv hm1v hmwv1 hrg
      go_wp2_with (first | ((with_reducible refine wpList_store_lit 29 (.tmp 5) (.tmp 12) ?_); refine ⟨rfl, [.string fr.sc, .slice fr.a fr.cs.length fr.c], rfl, rfl, by kernel_rfl, rfl, ?_⟩; rw [Hwv.out]) | ((with_reducible refine wpList_mput_lit 61 (.tmp 13) (.tmp 14) (.tmp 15) ?_); refine ⟨9, 29, md, n, fm, .string k, Hm1v.out, keyed_s, Tryz.underlying61, hnm, rfl, Hkey.out, ?_⟩; intro w8 hM' hm'; have HM' := Lib.hid hM'; have Hm' := Lib.hid hm'; clear hM' hm') | fail)
      go_roundw
      case rel =>
        have hmw8 : Mod (fun k => k = md) w w8 := Hmwv1.out.trans Hm'.out (fun _ _ h => h)
        have hml8 : Mod (fun k => k = md ∨ k = w.heap.size) wl w8 := ((Hmu.out.mono (fun _ _ h => .inr h)).trans (Hmwv.out.mono (fun _ _ h => h.elim)) (fun _ _ h => h)).trans (Hm'.out.mono (fun _ _ h => .inl h)) (fun _ _ h => h)
        refine ⟨_, cnt', _, fun x => if x = k then gs k else g x, _, HM'.out, by split <;> omega, fun x => ?_, Hrgv.out.mod Hm'.out (fun h => hne h.symm) (fun h => by have h' : w.heap.size = md := h; omega), fun x => ?_, hmw8⟩
        · unfold putF
          show FilIs w8 own C _ (if x = k then gs k else g x)
          by_cases e : x = k
          · subst e
            rw [if_pos rfl, if_pos rfl, Hfq.out]
            obtain ⟨h4, h5⟩ := Hfr.out
            have h6 := (Hsv.out x).mod2 hmw8 (fun k _ hk h => hC (hk ▸ h))
            rw [Hfc.out, Hfq.out] at h6
            exact h6
          · rw [if_neg (fun h => e (Lit.string.inj h)), if_neg e]
            have h0 := Hv.out x
            have hlow : ∀ k', k' < wl.heap.size → (k' = md ∨ k' = w.heap.size) → C k' → False := fun k' _ h hc => by
              rcases h with h | h
              · exact hC (h ▸ hc)
              · have := hCl _ hc; omega
            exact h0.mod2 hml8 (fun k' hk' h hc => hlow k' hk' h hc)
        · show (if x = k then gs k else g x) = if ((gs x).isSome && !(left (.string x) && !(Lit.string x).sameKey (.string k))) = true then gs x else gd x
          by_cases e : x = k
          · subst e
            rw [if_pos rfl, same_s, Hfq.out]
            simp
          · rw [if_neg e, Hg.out x, same_s]
            have : (x == k) = false := by rw [beq_eq_false_iff_ne]; exact e
            rw [this, Bool.not_false, Bool.and_true]
      case measure => rw [(Hrgv.out.mod Hm'.out (fun h => hne h.symm) (fun h => by have h' : w.heap.size = md := h; omega)).left_eq, Hrg.out.left_eq]; exact hlt2
end Go.Proofs.YtloplmaekonenaaGreatDoor

namespace Go.Proofs.YtloplmaekonenaaGreatDoor
set_option maxRecDepth 20000
open Go.RowKit

/-- What is known of a filter in a table. -/
def okQ (q : Fil) : Prop := q.2.length ≤ 19 ∧ (∀ c ∈ q.2, c.fits) ∧ q.1.size ≤ 1000000
theorem cov_at (w : World) (x y : Fr) (hx : RdSl w 7 (.slice x.a x.cs.length x.c) x.cs.length (cnds x.cs)) (hy : RdSl w 7 (.slice y.a y.cs.length y.c) y.cs.length (cnds y.cs)) (hxo : okQ x.fil) (hyo : okQ y.fil) :
    Calls Tryz.prog 97 #[.agg #[.string x.sc, .slice x.a x.cs.length x.c], .agg #[.string y.sc, .slice y.a y.cs.length y.c]] w fun e w' => e = .returned (.bool (covQ x.fil y.fil)) ∧ Mod (fun _ => False) w w' :=
  covers_over impB w x.sc _ x.cs hx (by have := hxo.1; have h : x.fil.2.length = x.cs.length := rfl; omega) (by have := hxo.2.2; have h : x.fil.1 = x.sc := rfl; rw [h] at this; omega) y.sc _ y.cs hy (by have := hyo.1; have h : y.fil.2.length = y.cs.length := rfl; omega) (by have := hyo.2.2; have h : y.fil.1 = y.sc := rfl; rw [h] at this; omega)
    (fun d hd c hc wx _ => by
      have h1 := hyo.2.1 d hd
      have h2 := hxo.2.1 c hc
      exact implies_at d c (by have := h1.1.text; omega) (by have := h2.1.text; omega) h1.1.num h2.1.num wx)
/-- Does that one cover it? -/
def covJ (g : List UInt8 → Option Fil) (k : List UInt8) (f : Fil) (j : List UInt8) : Bool := match g j with | some h => decide (j ≠ k) && (covQ h f && (decide (j < k) || !covQ f h)) | none => false
theorem covdF_J (g : List UInt8 → Option Fil) (ks : List (List UInt8)) (k : List UInt8) (f : Fil) : covdF g ks k f = ks.any (covJ g k f) := rfl
/-- A round. -/
def CovRel (w : World) (ma r : Nat) (fm : Lit → Option Value) (g : List UInt8 → Option Fil) (k : List UInt8) (f : Fil) (wr : World) : Prop :=
  ∃ (left : Lit → Bool) (cnt : Nat), RngR wr 9 ma r fm left cnt ∧ (∀ j, (g j).isSome = true → left (.string j) = false → covJ g k f j = false) ∧ Mod (fun _ => False) w wr

set_option maxHeartbeats 8000000 in
theorem covered_at (w : World) (own C : Nat → Prop) (ma n : Nat) (fm : Lit → Option Value) (g : List UInt8 → Option Fil) (hm : MapR w 9 ma n fm) (hv : ∀ x, FilIs w own C (fm (.string x)) (g x)) (hwf : ∀ x q, g x = some q → okQ q)
    (k : List UInt8) (hkl : k.length ≤ maxLen) (f : Fil) (hk : g k = some f) (ks : List (List UInt8)) (hks : ∀ x, x ∈ ks ↔ (g x).isSome = true) :
    Calls Tryz.prog 58 #[.map (some ma), .string (str k)] w fun e w' => e = .returned (.bool (covdF g ks k f)) ∧ Mod (fun _ => False) w w' := by
  obtain ⟨fr, hfv, hfq, hfr⟩ := fil_fr (hv k) (fun h => by rw [hk] at h; cases h)
  have hff : f = fr.fil := by rw [hk] at hfq; exact Option.some.inj hfq
  subst hff
  have hfo := hwf k _ hk
  have hks' := key_s k hkl
  rw [covdF_J]
  obtain ⟨B, hB⟩ : ∃ B, ks.any (covJ g k fr.fil) = B := ⟨_, rfl⟩
  rw [hB]
  have HB := Lib.hid hB
  have Hm := Lib.hid hm
  have Hv := Lib.hid hv
  have Hwf := Lib.hid hwf
  have Hk := Lib.hid hk
  have Hks := Lib.hid hks
  have Hfv := Lib.hid hfv
  have Hfq := Lib.hid hfq
  have Hfr := Lib.hid hfr
  have Hfo := Lib.hid hfo
  have Hks' := Lib.hid hks'
  clear hB hm hv hwf hk hks hfv hfq hfr hfo hks'
  go_enter Tryz.func58, Tryz.ntmps58
  go_wp2_with (first | ((at_range; refine wpList_range_R rfl _ 61 rfl 9 29 keyed_s Tryz.underlying61 ma n fm rfl Hm.out ?_; intro wF hrg hmF hzF)) | fail)
  have hrel0 : CovRel w ma w.heap.size fm g k fr.fil wF := ⟨_, _, hrg, fun j h1 h2 => (by
    have e := (Hv.out j).some
    rw [h1] at e
    have h3 : (fm (.string j)).isSome = false := h2
    rw [e] at h3
    cases h3), hmF⟩
  have Hrel0 := Lib.hid hrel0
  have Hrg := Lib.hid hrg
  have HmF := Lib.hid hmF
  clear hrel0 hrg hmF hzF
  go_frame
  go_loopw [9] (fun _ wr => CovRel w ma w.heap.size fm g k fr.fil wr) (fun _ wr => wr.rangeLeft ma w.heap.size)
  case atStart => exact Hrel0.out
  case round =>
    revert wr
    intro wl hrel
    obtain ⟨left, cnt, hrg, hno, hmr⟩ := hrel
    have Hno := Lib.hid hno
    have Hmr := Lib.hid hmr
    clear hno hmr
    go_wp2_with (first | ((at_next; refine wpList_next_R rfl _ rfl 9 keyed_s encStr Lit.string (inv_s _ Tryz.underlying9) (in_s _ Tryz.underlying9) ma w.heap.size fm left cnt rfl hrg ?_ ?_)) | fail)
    · intro hl0
      have hany : B = false := by
        rw [← HB.out, List.any_eq_false]
        intro j hj
        rw [Hno.out j ((Hks.out j).1 hj) (hl0 _)]
        exact Bool.false_ne_true
      subst hany
      have Hrg := Lib.hid hrg
      have Hl0 := Lib.hid hl0
      clear hrg hl0
      go_wp2_with fail
      go_ret
      exact ⟨rfl, Hmr.out⟩
    · intro x c wu cnt' hkey hlk hfc hrg' hlt2 hmu hzu hen
      obtain ⟨h, hhv, hhq, hhr⟩ := fil_fr (Hv.out x) (fun e => by have h1 := (Hv.out x).some; rw [hfc, e] at h1; cases h1)
      rw [hfc] at hhv
      obtain rfl := Option.some.inj hhv
      have hxk : x ∈ ks := (Hks.out x).2 (by rw [hhq]; rfl)
      obtain ⟨wv, hwv⟩ : ∃ wv : World, wu.alloc (.cells #[.string h.sc, .slice h.a h.cs.length h.c] 29) = wv := ⟨_, rfl⟩
      have hmwv : Mod (fun _ => False) wu wv := hwv ▸ (Mod.refl (fun _ => False) wu).alloc _
      have hgwv := heap_alloc_new wu (.cells #[.string h.sc, .slice h.a h.cs.length h.c] 29)
      rw [hwv] at hgwv
      have hzwv : wv.heap.size = wu.heap.size + 1 := by rw [← hwv]; simp
      have hm0v := (Hmr.out.upon hmu (fun k hk => .inr (Nat.le_of_eq (Eq.symm hk)))).trans hmwv (fun _ _ h => h)
      have v2 : wv.cell? ⟨wu.heap.size, 0, none⟩ = some (.string h.sc) := cell_of hgwv rfl
      have v3 : wv.cell? ⟨wu.heap.size, 1, none⟩ = some (.slice h.a h.cs.length h.c) := cell_of hgwv rfl
      have hrgv := hrg'.mod hmwv (fun h => h) (fun h => h)
      have hl1 := (Hm.out.mod hm0v (fun h => h)).look keyed_s Tryz.underlying61 (zero_fil wv) Hks'.out
      rw [Hfv.out] at hl1
      have hl1' : (Instr.lookup 61 (.map (some ma)) (.string (str k)) false).run Tryz.prog wv = .ok (.agg #[.string fr.sc, .slice fr.a fr.cs.length fr.c]) wv := hl1
      have hho := Hwf.out x _ hhq
      have hrh := (hhr.1.mod hm0v (fun _ _ h => h)).rd
      have hrf := (Hfr.out.1.mod hm0v (fun _ _ h => h)).rd
      have hc1 := cov_at wv h fr hrh hrf hho Hfo.out
      obtain ⟨t1, ht1⟩ : ∃ t, covQ h.fil fr.fil = t := ⟨_, rfl⟩
      rw [ht1] at hc1
      have Hrg := Lib.hid hrg
      have Hkey := Lib.hid hkey
      have Hlk := Lib.hid hlk
      have Hfc := Lib.hid hfc
      have Hrg' := Lib.hid hrg'
      have Hmu := Lib.hid hmu
      have Hzu := Lib.hid hzu
      have Hhq := Lib.hid hhq
      have Hhr := Lib.hid hhr
      have Hwv := Lib.hid hwv
      have Hmwv := Lib.hid hmwv
      have Hgwv := Lib.hid hgwv
      have Hrgv := Lib.hid hrgv
      have Hm0v := Lib.hid hm0v
      have Hl1 := Lib.hid hl1
      have Hho := Lib.hid hho
      have Hrh := Lib.hid hrh
      have Hrf := Lib.hid hrf
      have Hc1 := Lib.hid hc1
      have Ht1 := Lib.hid ht1
      have Hxk := Lib.hid hxk
      clear hrg hkey hlk hfc hrg' hmu hzu hhq hhr hwv hmwv hgwv hrgv hm0v hl1 hho hrh hrf hc1 ht1 hxk
      have hsl : (str k).toList = k := by rw [ByteArray.toList_eq]; simp [str]
      by_cases hxe : x = k
      · have hxf : covJ g k fr.fil x = false := by unfold covJ; rw [Hhq.out]; simp [hxe]
        have hsx : (str x).toList = x := by rw [hxe]; exact hsl
        have hno2 : ∀ j, (g j).isSome = true → (left (.string j) && !(Lit.string j).sameKey (.string x)) = false → covJ g k fr.fil j = false := fun j h1 h2 => by
          rw [same_s] at h2
          by_cases e : j = x
          · rw [e]; exact hxf
          · have e2 : (j == x) = false := by rw [beq_eq_false_iff_ne]; exact e
            rw [e2, Bool.not_false, Bool.and_true] at h2
            exact Hno.out j h1 h2
        have Hno2 := Lib.hid hno2
        have Hxf := Lib.hid hxf
        clear hno2 hxf
        go_wp2_with (first | ((with_reducible refine wpList_store_lit 29 (.tmp 6) (.tmp 13) ?_); refine ⟨rfl, [.string h.sc, .slice h.a h.cs.length h.c], rfl, rfl, by kernel_rfl, rfl, ?_⟩; rw [Hwv.out]) | fail)
        go_roundw
        case rel => exact ⟨_, cnt', Hrgv.out, Hno2.out, Hm0v.out⟩
        case measure => rw [Hrgv.out.left_eq, Hrg.out.left_eq]; exact hlt2
      · have hsx : (str x).toList = x := by rw [ByteArray.toList_eq]; simp [str]
        go_wp2_with (first | ((with_reducible refine wpList_store_lit 29 (.tmp 6) (.tmp 13) ?_); refine ⟨rfl, [.string h.sc, .slice h.a h.cs.length h.c], rfl, rfl, by kernel_rfl, rfl, ?_⟩; rw [Hwv.out]) | fail)
        all_goals first | (exfalso; exact absurd (by assumption) hxe) | skip
        refine Hc1.out.mono ?_
        rintro e w4 ⟨rfl, hm4⟩
        have hrg4 := Hrgv.out.mod hm4 (fun h => h) (fun h => h)
        have hm04 := Hm0v.out.trans hm4 (fun _ _ h => h)
        cases t1 with
        | false =>
          have hxf : covJ g k fr.fil x = false := by unfold covJ; rw [Hhq.out]; simp only []; rw [Ht1.out]; simp
          have hno2 : ∀ j, (g j).isSome = true → (left (.string j) && !(Lit.string j).sameKey (.string x)) = false → covJ g k fr.fil j = false := fun j h1 h2 => by
            rw [same_s] at h2
            by_cases e : j = x
            · rw [e]; exact hxf
            · have e2 : (j == x) = false := by rw [beq_eq_false_iff_ne]; exact e
              rw [e2, Bool.not_false, Bool.and_true] at h2
              exact Hno.out j h1 h2
          have Hno2 := Lib.hid hno2
          have Hxf := Lib.hid hxf
          have Hm4 := Lib.hid hm4
          have Hrg4 := Lib.hid hrg4
          have Hm04 := Lib.hid hm04
          clear hno2 hxf hm4 hrg4 hm04
          go_wp2_with fail
          go_roundw
          case rel => exact ⟨_, cnt', Hrg4.out, Hno2.out, Hm04.out⟩
          case measure => rw [Hrg4.out.left_eq, Hrg.out.left_eq]; exact hlt2
        | true =>
          have w2 : w4.cell? ⟨wu.heap.size, 0, none⟩ = some (.string h.sc) := hm4.cell v2 (fun h => h)
          have w3 : w4.cell? ⟨wu.heap.size, 1, none⟩ = some (.slice h.a h.cs.length h.c) := hm4.cell v3 (fun h => h)
          by_cases hxl : x < k
          · have hbl : Op.bytesLess x k = true := by rw [Go.Proofs.bytesLess_eq]; exact decide_eq_true hxl
            have hBt : B = true := by
              rw [← HB.out, List.any_eq_true]
              refine ⟨x, Hxk.out, ?_⟩
              unfold covJ
              rw [Hhq.out]
              simp only []
              rw [Ht1.out]
              simp [hxe, hxl]
            subst hBt
            have Hm4 := Lib.hid hm4
            have Hrg4 := Lib.hid hrg4
            have Hm04 := Lib.hid hm04
            clear hm4 hrg4 hm04
            go_wp2_with fail
            go_ret
            exact ⟨rfl, Hm04.out⟩
          · have hbl : Op.bytesLess x k = false := by rw [Go.Proofs.bytesLess_eq]; exact decide_eq_false hxl
            have hl4 := (Hm.out.mod hm04 (fun h => h)).look keyed_s Tryz.underlying61 (zero_fil w4) Hks'.out
            rw [Hfv.out] at hl4
            have hl4' : (Instr.lookup 61 (.map (some ma)) (.string (str k)) false).run Tryz.prog w4 = .ok (.agg #[.string fr.sc, .slice fr.a fr.cs.length fr.c]) w4 := hl4
            have hc2 := cov_at w4 fr h (Hrf.out.mod hm4 (fun _ _ h => h)) (Hrh.out.mod hm4 (fun _ _ h => h)) Hfo.out Hho.out
            obtain ⟨t2, ht2⟩ : ∃ t, covQ fr.fil h.fil = t := ⟨_, rfl⟩
            rw [ht2] at hc2
            have Hm4 := Lib.hid hm4
            have Hrg4 := Lib.hid hrg4
            have Hm04 := Lib.hid hm04
            have Hl4 := Lib.hid hl4
            have Hc2 := Lib.hid hc2
            have Ht2 := Lib.hid ht2
            clear hm4 hrg4 hm04 hl4 hc2 ht2
            go_wp2_with fail
            refine Hc2.out.mono ?_
            rintro e w5 ⟨rfl, hm5⟩
            have hrg5 := Hrg4.out.mod hm5 (fun h => h) (fun h => h)
            have hm05 := Hm04.out.trans hm5 (fun _ _ h => h)
            cases t2 with
            | true =>
              have hxf : covJ g k fr.fil x = false := by unfold covJ; rw [Hhq.out]; simp only []; rw [Ht1.out, Ht2.out]; simp [hxl]
              have hno2 : ∀ j, (g j).isSome = true → (left (.string j) && !(Lit.string j).sameKey (.string x)) = false → covJ g k fr.fil j = false := fun j h1 h2 => by
                rw [same_s] at h2
                by_cases e : j = x
                · rw [e]; exact hxf
                · have e2 : (j == x) = false := by rw [beq_eq_false_iff_ne]; exact e
                  rw [e2, Bool.not_false, Bool.and_true] at h2
                  exact Hno.out j h1 h2
              have Hno2 := Lib.hid hno2
              have Hxf := Lib.hid hxf
              have Hm5 := Lib.hid hm5
              have Hrg5 := Lib.hid hrg5
              have Hm05 := Lib.hid hm05
              clear hno2 hxf hm5 hrg5 hm05
              go_wp2_with fail
              go_roundw
              case rel => exact ⟨_, cnt', Hrg5.out, Hno2.out, Hm05.out⟩
              case measure => rw [Hrg5.out.left_eq, Hrg.out.left_eq]; exact hlt2
            | false =>
              have hBt : B = true := by
                rw [← HB.out, List.any_eq_true]
                refine ⟨x, Hxk.out, ?_⟩
                unfold covJ
                rw [Hhq.out]
                simp only []
                rw [Ht1.out, Ht2.out]
                simp [hxe]
              subst hBt
              have Hm5 := Lib.hid hm5
              have Hrg5 := Lib.hid hrg5
              have Hm05 := Lib.hid hm05
              clear hm5 hrg5 hm05
              go_wp2_with fail
              go_ret
              exact ⟨rfl, Hm05.out⟩
end Go.Proofs.YtloplmaekonenaaGreatDoor
