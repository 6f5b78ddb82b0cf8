/-
  Package policy: check.
  Package event: New.
  The law's Event: one that may be, of attributes.
  What is right is small; the names of an event are unlike.
-/
import Derived.Test.YtaenebdppkjhoaaGreatDoorZa38
import Derived.Test.YtaenebdppkjhoaaGreatDoorZa12
import Derived.Test.YtaenebdppkjhoaaGreatDoorZa6
import Derived.Test.YtaenebdppkjhoaaGreatDoorZa10
import Derived.Test.YtaenebdppkjhoaaGreatDoorZa4
import Derived.Deep.DeepCutAuto
import Derived.Deep.CutBlock
import Derived.Test.YtaenebdppkjhoaaGreatDoorZa33
namespace Go.Proofs.YtaenebdppkjhoaaGreatDoor
set_option maxRecDepth 20000
open Go.RowKit

theorem ruleR_pru (l : List Ru) (i : Int) : ruleR l i = none → revP (l.map Ru.pru) ⟨0, 0, ⟨#[]⟩, 0, ⟨#[]⟩, [], ⟨#[]⟩, i⟩ = false := fun h => by
  unfold ruleR at h
  unfold revP
  by_cases h0 : i < 0
  · rw [if_pos h0]
  · rw [if_neg h0] at h ⊢
    rw [List.getElem?_map, h]
    rfl
theorem revP_none {l : List Ru} {p : PRu} (h : ruleR l p.at_ = none) : revP (l.map Ru.pru) p = false := ruleR_pru l p.at_ h
theorem revP_some {l : List Ru} {p : PRu} {x : Ru} (h : ruleR l p.at_ = some x) : revP (l.map Ru.pru) p = (!(decide (x.kind = 4)) && !(decide (x.kind = 0)) && !goneP (l.map Ru.pru) p.at_ l.length) := by
  unfold ruleR at h
  unfold revP
  by_cases h0 : p.at_ < 0
  · rw [if_pos h0] at h; cases h
  · rw [if_neg h0] at h ⊢
    rw [List.getElem?_map, h, List.length_map]
    rfl
theorem ruleR_mem {l : List Ru} {i : Int} {x : Ru} (h : ruleR l i = some x) : x ∈ l := by
  unfold ruleR at h
  split at h
  · cases h
  · exact List.mem_of_getElem? h

set_option maxHeartbeats 8000000 in
theorem check_at (w : World) (g : Nat) (a : Option Addr) (cap : Nat) (l : List Ru) (c0 : w.cell? ⟨g, 0, none⟩ = some (.slice a l.length cap)) (hv : RuSl w (.slice a l.length cap) l) (hll : l.length ≤ 40) (r : Ru) (hr : r.ok w) :
    Calls Tryz.prog 48 #[.pointer (some ⟨g, 0, none⟩), .agg r.cells.toArray] w fun e w' => e = .returned (.int .i64 (chkP (l.map Ru.pru) r.pru)) ∧ Mod (fun _ => False) w w' := by
  obtain ⟨wa, hwa⟩ : ∃ wa : World, w.alloc (.cells r.cells.toArray 35) = wa := ⟨_, rfl⟩
  have hmwa : Mod (fun _ => False) w wa := hwa ▸ (Mod.refl (fun _ => False) w).alloc _
  have hgwa := heap_alloc_new w (.cells r.cells.toArray 35)
  rw [hwa] at hgwa
  have hzwa : wa.heap.size = w.heap.size + 1 := by rw [← hwa]; simp
  have hgl : g < w.heap.size := World.block_lt_of_cell? w _ c0
  have hrt := acl_right r wa (hr.mod hmwa)
  have hll' : (l.length : Int) ≤ 40 := by omega
  obtain ⟨R, hR⟩ : ∃ R, chkP (l.map Ru.pru) r.pru = R := ⟨_, rfl⟩
  rw [hR]
  have hRr : r.pru.rightB = r.rightB := rfl
  have hHo := homeP_ru l r.tenant r.who
  have hlm : (l.map Ru.pru).length = l.length := List.length_map _
  have hF : ∀ wx, Mod (fun _ => False) wa wx → wx.cell? ⟨g, 0, none⟩ = some (.slice a l.length cap) ∧ wx.cell? ⟨w.heap.size, 0, none⟩ = some (.int .i64 r.kind) ∧ wx.cell? ⟨w.heap.size, 1, none⟩ = some (.int .i64 r.tenant) ∧ wx.cell? ⟨w.heap.size, 2, none⟩ = some (.string r.who) ∧
      wx.cell? ⟨w.heap.size, 7, none⟩ = some (.int .i64 r.at_) ∧ RuSl wx (.slice a l.length cap) l ∧ Mod (fun _ => False) w wx := fun wx hx =>
    ⟨hx.cell (hmwa.cell c0 (fun h => h)) (fun h => h), hx.cell (cell_of hgwa rfl) (fun h => h), hx.cell (cell_of hgwa rfl) (fun h => h), hx.cell (cell_of hgwa rfl) (fun h => h), hx.cell (cell_of hgwa rfl) (fun h => h), (hv.mod hmwa).mod hx, hmwa.trans hx (fun _ _ h => h)⟩
  have hgz : g ≠ w.heap.size := by omega
  have Hv := Lib.hid hv
  have Hr := Lib.hid hr
  have Hwa := Lib.hid hwa
  have Hmwa := Lib.hid hmwa
  have Hgwa := Lib.hid hgwa
  have Hrt := Lib.hid hrt
  have HR := Lib.hid hR
  have HRr := Lib.hid hRr
  have HHo := Lib.hid hHo
  have Hlm := Lib.hid hlm
  have HF := Lib.hid hF
  clear hv hr hwa hmwa hgwa hrt hR hRr hHo hlm hF hzwa c0 hgl
  go_enter Tryz.func48, Tryz.ntmps48
  go_wp2_with (first | (rw [show w.alloc _ = wa from Hwa.out]) | ((with_reducible refine wpList_load_lit 35 (.tmp 3) ?_); refine ⟨w.heap.size, 0, rfl, r.cells, CellsAt.row Hgwa.out, by kernel_rfl, by kernel_rfl, ?_⟩) | fail)
  refine Hrt.out.mono ?_
  rintro e w1 ⟨rfl, hm1⟩
  obtain ⟨f0, f1, f2, f3, f4, f5, f6⟩ := HF.out w1 hm1
  cases hb : r.rightB with
  | false =>
    have h1 : R = 1 := by rw [← HR.out]; unfold chkP; rw [if_pos (HRr.out.trans hb)]
    have F6 := Lib.hid f6
    have H1 := Lib.hid h1
    clear f6 h1 f5 hm1 hb
    go_wp2
    go_ret
    exact ⟨by rw [H1.out]; rfl, F6.out⟩
  | true =>
  have hq1 : ¬ r.pru.rightB = false := by rw [HRr.out, hb]; decide
  by_cases hl40 : l.length = 40
  · have h1 : R = 6 := by rw [← HR.out]; unfold chkP; rw [if_neg hq1, if_pos (Hlm.out.trans hl40)]
    have hl40' : (l.length : Int) = 40 := by omega
    have F6 := Lib.hid f6
    have H1 := Lib.hid h1
    clear f6 h1 f5 hm1 hb hq1
    go_wp2
    go_ret
    exact ⟨by rw [H1.out]; rfl, F6.out⟩
  have hl40' : ¬ (l.length : Int) = 40 := by omega
  have hq2 : ¬ (l.map Ru.pru).length = 40 := by rw [Hlm.out]; exact hl40
  by_cases hk4 : r.kind = 4
  · have hRv : R = if revP (l.map Ru.pru) r.pru then 0 else 3 := by rw [← HR.out]; unfold chkP; rw [if_neg hq1, if_neg hq2, if_pos (show r.pru.kind = 4 from hk4)]
    have hru := rule_at w1 g a cap l f0 f5 (by omega) r.at_
    have Hm1 := Lib.hid hm1
    have HRv := Lib.hid hRv
    have Hru := Lib.hid hru
    have F5 := Lib.hid f5
    have F6 := Lib.hid f6
    clear hm1 hRv hru f5 f6 hb hq1 hq2
    go_wp2_with fail
    refine Hru.out.mono ?_
    rintro e w2 ⟨rfl, hm2⟩
    have hm12 := Hm1.out.trans hm2 (fun _ _ h => h)
    cases hx : ruleR l r.at_ with
    | none =>
      obtain ⟨w3, hw3⟩ : ∃ w3 : World, w2.alloc (.cells zeroRu.cells.toArray 35) = w3 := ⟨_, rfl⟩
      have hmw3 : Mod (fun _ => False) w2 w3 := hw3 ▸ (Mod.refl (fun _ => False) w2).alloc _
      have hgw3 := heap_alloc_new w2 (.cells zeroRu.cells.toArray 35)
      rw [hw3] at hgw3
      have hzw3 : w3.heap.size = w2.heap.size + 1 := by rw [← hw3]; simp
      have hm13 := hm12.trans hmw3 (fun _ _ h => h)
      have h1 : R = 3 := by rw [HRv.out, revP_none hx]; rfl
      have Hx := Lib.hid hx
      have Hm2 := Lib.hid hm2
      have Hm12 := Lib.hid hm12
      have Hw3 := Lib.hid hw3
      have Hmw3 := Lib.hid hmw3
      have Hgw3 := Lib.hid hgw3
      have Hm13 := Lib.hid hm13
      have H1 := Lib.hid h1
      clear hx hm2 hm12 hw3 hmw3 hgw3 hm13 h1 hzw3 f0 f1 f2 f3 f4
      go_wp2_with (first | ((with_reducible refine wpList_store_lit 35 (.tmp 5) (.tmp 26) ?_); refine ⟨rfl, zeroRu.cells, rfl, rfl, by kernel_rfl, rfl, ?_⟩; rw [Hw3.out]) | fail)
      refine wp_region_news (by kernel_rfl) (by kernel_rfl) ?_
      iterate 23 (first
        | (refine quiet_skip ?_ (fun K hK => ?_)
           · first | (go_simp; done) | (go_simp; simp [undef]; done)
           go_simp; refine hK _ ?_; clear hK K)
        | (refine quiet_do ?_ ?_ (fun w' hw' => ?_) (fun K hK => ?_)
           · first | (go_simp; done) | (go_simp; simp [undef]; done)
           rotate_left
           · skip
             go_simp
             rfl
           go_simp; refine hK _ ?_; clear hK K))
      refine quiet_end (fun w' hw' => ?_)
      have Hw' := Lib.hid (HF.out w' (Hm13.out.trans hw' (fun _ _ h => h))).2.2.2.2.2.2
      clear hw'
      go_wp2
      go_ret
      exact ⟨by rw [H1.out]; rfl, Hw'.out⟩
    | some x =>
      have hxm := ruleR_mem hx
      obtain ⟨w3, hw3⟩ : ∃ w3 : World, w2.alloc (.cells x.cells.toArray 35) = w3 := ⟨_, rfl⟩
      have hmw3 : Mod (fun _ => False) w2 w3 := hw3 ▸ (Mod.refl (fun _ => False) w2).alloc _
      have hgw3 := heap_alloc_new w2 (.cells x.cells.toArray 35)
      rw [hw3] at hgw3
      have hzw3 : w3.heap.size = w2.heap.size + 1 := by rw [← hw3]; simp
      have hm13 := hm12.trans hmw3 (fun _ _ h => h)
      have hrv := revP_some (p := r.pru) hx
      have hF3 : ∀ wx, Mod (fun _ => False) w3 wx → wx.cell? ⟨g, 0, none⟩ = some (.slice a l.length cap) ∧ wx.cell? ⟨w.heap.size, 7, none⟩ = some (.int .i64 r.at_) ∧ wx.cell? ⟨w2.heap.size, 0, none⟩ = some (.int .i64 x.kind) ∧ Mod (fun _ => False) w wx := fun wx hx => by
        obtain ⟨e0, e1, e2, e3, e4, e5, e6⟩ := HF.out wx (hm13.trans hx (fun _ _ h => h))
        exact ⟨e0, e4, hx.cell (cell_of hgw3 rfl) (fun h => h), e6⟩
      obtain ⟨G, hG⟩ : ∃ G, goneP (l.map Ru.pru) r.at_ l.length = G := ⟨_, rfl⟩
      have hgo : ∀ wx, Mod (fun _ => False) w3 wx → Calls Tryz.prog 49 #[.pointer (some ⟨g, 0, none⟩), .int .i64 r.at_, .int .i64 l.length] wx fun e w' => e = .returned (.bool G) ∧ Mod (fun _ => False) w3 w' := fun wx hx => by
        obtain ⟨e0, e1, e2, e3, e4, e5, e6⟩ := HF.out wx (hm13.trans hx (fun _ _ h => h))
        have h1 := gone_at wx g a cap l e0 e5 (by omega) r.at_ l.length (Nat.le_refl _)
        rw [hG] at h1
        exact h1.mono fun e w' ⟨he, hm⟩ => ⟨he, hx.trans hm (fun _ _ h => h)⟩
      rw [show goneP (l.map Ru.pru) r.pru.at_ l.length = G from hG] at hrv
      have Hx := Lib.hid hx
      have Hxm := Lib.hid hxm
      have Hm2 := Lib.hid hm2
      have Hm12 := Lib.hid hm12
      have Hw3 := Lib.hid hw3
      have Hmw3 := Lib.hid hmw3
      have Hgw3 := Lib.hid hgw3
      have Hm13 := Lib.hid hm13
      have Hrv := Lib.hid hrv
      have HF3 := Lib.hid hF3
      have Hgo := Lib.hid hgo
      have HG := Lib.hid hG
      clear hx hxm hm2 hm12 hw3 hmw3 hgw3 hm13 hrv hF3 hgo hG hzw3 f0 f1 f2 f3 f4
      by_cases x4 : x.kind = 4
      · have h1 : R = 3 := by rw [HRv.out, Hrv.out, decide_eq_true x4]; rfl
        have t1 : (x.kind == 4) = true := by simpa using x4
        have H1 := Lib.hid h1
        clear h1
        go_wp2_with (first | ((with_reducible refine wpList_store_lit 35 (.tmp 5) (.tmp 26) ?_); refine ⟨rfl, x.cells, rfl, rfl, by kernel_rfl, rfl, ?_⟩; rw [Hw3.out]) | fail)
        refine wp_region_news (by kernel_rfl) (by kernel_rfl) ?_
        iterate 23 (first
          | (refine quiet_skip ?_ (fun K hK => ?_)
             · first | (go_simp; done) | (go_simp; simp [undef]; done)
             go_simp; refine hK _ ?_; clear hK K)
          | (refine quiet_do ?_ ?_ (fun w' hw' => ?_) (fun K hK => ?_)
             · first | (go_simp; done) | (go_simp; simp [undef]; done)
             rotate_left
             · obtain ⟨f0, f1, f2, f3⟩ := HF3.out w' hw'
               go_simp
               rfl
             go_simp; refine hK _ ?_; clear hK K))
        refine quiet_end (fun w' hw' => ?_)
        have Hw' := Lib.hid (HF3.out w' hw').2.2.2
        clear hw'
        go_wp2
        go_ret
        exact ⟨by rw [H1.out]; rfl, Hw'.out⟩
      have t1 : (x.kind == 4) = false := by simpa using x4
      by_cases x0 : x.kind = 0
      · have h1 : R = 3 := by rw [HRv.out, Hrv.out, decide_eq_false x4, decide_eq_true x0]; rfl
        have t2 : (x.kind == 0) = true := by simpa using x0
        have H1 := Lib.hid h1
        clear h1
        go_wp2_with (first | ((with_reducible refine wpList_store_lit 35 (.tmp 5) (.tmp 26) ?_); refine ⟨rfl, x.cells, rfl, rfl, by kernel_rfl, rfl, ?_⟩; rw [Hw3.out]) | fail)
        refine wp_region_news (by kernel_rfl) (by kernel_rfl) ?_
        iterate 23 (first
          | (refine quiet_skip ?_ (fun K hK => ?_)
             · first | (go_simp; done) | (go_simp; simp [undef]; done)
             go_simp; refine hK _ ?_; clear hK K)
          | (refine quiet_do ?_ ?_ (fun w' hw' => ?_) (fun K hK => ?_)
             · first | (go_simp; done) | (go_simp; simp [undef]; done)
             rotate_left
             · obtain ⟨f0, f1, f2, f3⟩ := HF3.out w' hw'
               go_simp
               rfl
             go_simp; refine hK _ ?_; clear hK K))
        refine quiet_end (fun w' hw' => ?_)
        have Hw' := Lib.hid (HF3.out w' hw').2.2.2
        clear hw'
        go_wp2
        go_ret
        exact ⟨by rw [H1.out]; rfl, Hw'.out⟩
      have t2 : (x.kind == 0) = false := by simpa using x0
      have h1 : R = if G then 3 else 0 := by rw [HRv.out, Hrv.out, decide_eq_false x4, decide_eq_false x0]; cases G <;> rfl
      cases G with
      | true =>
        have H1 := Lib.hid h1
        clear h1
        go_wp2_with (first | ((with_reducible refine wpList_store_lit 35 (.tmp 5) (.tmp 26) ?_); refine ⟨rfl, x.cells, rfl, rfl, by kernel_rfl, rfl, ?_⟩; rw [Hw3.out]) | fail)
        refine wp_region_news (by kernel_rfl) (by kernel_rfl) ?_
        iterate 23 (first
          | (refine quiet_skip ?_ (fun K hK => ?_)
             · first | (go_simp; done) | (go_simp; simp [undef]; done)
             go_simp; refine hK _ ?_; clear hK K)
          | (refine quiet_do ?_ ?_ (fun w' hw' => ?_) (fun K hK => ?_)
             · first | (go_simp; done) | (go_simp; simp [undef]; done)
             rotate_left
             · obtain ⟨f0, f1, f2, f3⟩ := HF3.out w' hw'
               go_simp
               rfl
             go_simp; refine hK _ ?_; clear hK K)
          | (refine quiet_in ?_ ?_ ?_ ?_ (fun w' hw' => ?_) ?_ (fun K hK => ?_)
             · first | (go_simp; done) | (go_simp; simp [undef]; done)
             rotate_left 3
             · obtain ⟨f0, f1, f2, f3⟩ := HF3.out w' hw'
               go_simp
               constructor <;> rfl
             · first | with_reducible exact Hgo.out
             go_simp; refine hK _ ?_; clear hK K))
        refine quiet_end (fun w' hw' => ?_)
        have Hw' := Lib.hid (HF3.out w' hw').2.2.2
        clear hw'
        go_wp2
        go_ret
        exact ⟨by rw [H1.out]; rfl, Hw'.out⟩
      | false =>
        have H1 := Lib.hid h1
        clear h1
        go_wp2_with (first | ((with_reducible refine wpList_store_lit 35 (.tmp 5) (.tmp 26) ?_); refine ⟨rfl, x.cells, rfl, rfl, by kernel_rfl, rfl, ?_⟩; rw [Hw3.out]) | fail)
        refine wp_region_news (by kernel_rfl) (by kernel_rfl) ?_
        iterate 23 (first
          | (refine quiet_skip ?_ (fun K hK => ?_)
             · first | (go_simp; done) | (go_simp; simp [undef]; done)
             go_simp; refine hK _ ?_; clear hK K)
          | (refine quiet_do ?_ ?_ (fun w' hw' => ?_) (fun K hK => ?_)
             · first | (go_simp; done) | (go_simp; simp [undef]; done)
             rotate_left
             · obtain ⟨f0, f1, f2, f3⟩ := HF3.out w' hw'
               go_simp
               rfl
             go_simp; refine hK _ ?_; clear hK K)
          | (refine quiet_in ?_ ?_ ?_ ?_ (fun w' hw' => ?_) ?_ (fun K hK => ?_)
             · first | (go_simp; done) | (go_simp; simp [undef]; done)
             rotate_left 3
             · obtain ⟨f0, f1, f2, f3⟩ := HF3.out w' hw'
               go_simp
               constructor <;> rfl
             · first | with_reducible exact Hgo.out
             go_simp; refine hK _ ?_; clear hK K))
        refine quiet_end (fun w' hw' => ?_)
        have Hw' := Lib.hid (HF3.out w' hw').2.2.2
        clear hw'
        go_wp2
        go_ret
        exact ⟨by rw [H1.out]; rfl, Hw'.out⟩
  · obtain ⟨O, hO⟩ : ∃ O, homeOf l r.tenant r.who = O := ⟨_, rfl⟩
    have hRv : R = if r.kind = 0 then (if O.isSome then 4 else if peopleP (l.map Ru.pru) = 12 then 6 else 0) else if O.isSome then 0 else 3 := by
      rw [← HR.out]
      unfold chkP
      rw [if_neg hq1, if_neg hq2, if_neg (show ¬ r.pru.kind = 4 from hk4), show homeP (l.map Ru.pru) r.pru.tenant r.pru.who = O from HHo.out.trans hO]
      rfl
    have hho : ∀ wx, Mod (fun _ => False) w1 wx → Calls Tryz.prog 85 #[.slice a l.length cap, .int .i64 r.tenant, .string r.who] wx fun e w' => e = .returned (.tuple #[.int .i64 (O.getD 0), .bool O.isSome]) ∧ Mod (fun _ => False) w1 w' := fun wx hx => by
      obtain ⟨e0, e1, e2, e3, e4, e5, e6⟩ := HF.out wx (hm1.trans hx (fun _ _ h => h))
      have h1 := home_at wx (.slice a l.length cap) l e5 (by omega) r.tenant r.who
      rw [hO] at h1
      exact h1.mono fun e w' ⟨he, hm⟩ => ⟨he, hx.trans hm (fun _ _ h => h)⟩
    have hF1 : ∀ wx, Mod (fun _ => False) w1 wx → wx.cell? ⟨g, 0, none⟩ = some (.slice a l.length cap) ∧ wx.cell? ⟨w.heap.size, 0, none⟩ = some (.int .i64 r.kind) ∧ wx.cell? ⟨w.heap.size, 1, none⟩ = some (.int .i64 r.tenant) ∧ wx.cell? ⟨w.heap.size, 2, none⟩ = some (.string r.who) ∧ RuSl wx (.slice a l.length cap) l ∧ Mod (fun _ => False) w wx := fun wx hx => by
      obtain ⟨e0, e1, e2, e3, e4, e5, e6⟩ := HF.out wx (hm1.trans hx (fun _ _ h => h))
      exact ⟨e0, e1, e2, e3, e5, e6⟩
    obtain ⟨S, hS⟩ : ∃ S, O.isSome = S := ⟨_, rfl⟩
    obtain ⟨D, hD⟩ : ∃ D, O.getD 0 = D := ⟨_, rfl⟩
    rw [hS] at hRv
    simp only [hS, hD] at hho
    have t4 : (r.kind == 4) = false := by simpa using hk4
    have Hm1 := Lib.hid hm1
    have HRv := Lib.hid hRv
    have Hho := Lib.hid hho
    have HF1 := Lib.hid hF1
    have F5 := Lib.hid f5
    have F6 := Lib.hid f6
    have HO := Lib.hid hO
    have HS := Lib.hid hS
    have HD := Lib.hid hD
    clear hm1 hRv hho hF1 f5 f6 hO hS hD hb hq1 hq2
    go_wp2_with fail
    refine wp_region_news (by kernel_rfl) (by kernel_rfl) ?_
    iterate 14 (first
      | (refine quiet_skip ?_ (fun K hK => ?_)
         · first | (go_simp; done) | (go_simp; simp [undef]; done)
         go_simp; refine hK _ ?_; clear hK K)
      | (refine quiet_do ?_ ?_ (fun w' hw' => ?_) (fun K hK => ?_)
         · first | (go_simp; done) | (go_simp; simp [undef]; done)
         rotate_left
         · obtain ⟨f0, f1, f2, f3, f4, f5⟩ := HF1.out w' hw'; have F4 := Lib.hid f4; have F5 := Lib.hid f5; clear f4 f5
           go_simp
           rfl
         go_simp; refine hK _ ?_; clear hK K)
      | (refine quiet_in ?_ ?_ ?_ ?_ (fun w' hw' => ?_) ?_ (fun K hK => ?_)
         · first | (go_simp; done) | (go_simp; simp [undef]; done)
         rotate_left 3
         · obtain ⟨f0, f1, f2, f3, f4, f5⟩ := HF1.out w' hw'; have F4 := Lib.hid f4; have F5 := Lib.hid f5; clear f4 f5
           go_simp
           constructor <;> rfl
         · first | with_reducible exact Hho.out
         go_simp; refine hK _ ?_; clear hK K))
    refine quiet_end (fun w' hw' => ?_)
    obtain ⟨e0, e1, e2, e3, e4, e5⟩ := HF1.out w' hw'
    clear f0 f1 f2 f3 f4
    by_cases hk0 : r.kind = 0
    · cases S with
      | true =>
        have h1 : R = 4 := by rw [HRv.out, if_pos hk0]; rfl
        have H1 := Lib.hid h1
        have E5 := Lib.hid e5
        clear h1 e5 e4 hw'
        go_wp2
        go_ret
        exact ⟨by rw [H1.out]; rfl, E5.out⟩
      | false =>
        have hpe := people_at w' g a cap l e0 e4 (by omega)
        have hpj : peopleP (l.map Ru.pru) ≤ 40 := by
          unfold peopleP
          refine Nat.le_trans (List.length_filter_le _ _) ?_
          rw [Hlm.out]
          omega
        have h1 : R = if peopleP (l.map Ru.pru) = 12 then 6 else 0 := by rw [HRv.out, if_pos hk0]; rfl
        obtain ⟨p, hp⟩ : ∃ p, peopleP (l.map Ru.pru) = p := ⟨_, rfl⟩
        rw [hp] at hpe hpj h1
        have hpj' : (p : Int) ≤ 40 := by omega
        have H1 := Lib.hid h1
        have E5 := Lib.hid e5
        have Hpe := Lib.hid hpe
        have Hp := Lib.hid hp
        clear h1 e5 hpe hp e4 hw'
        go_wp2_with fail
        refine Hpe.out.mono ?_
        rintro e w3 ⟨rfl, hm3⟩
        have hm03 := E5.out.trans hm3 (fun _ _ h => h)
        have b0 := hm3.cell e1 (fun h => h)
        have Hm03 := Lib.hid hm03
        have Hm3 := Lib.hid hm3
        clear hm03 hm3
        by_cases hp12 : p = 12
        · have hp12' : (p : Int) = 12 := by omega
          have h2 : R = 6 := by rw [H1.out, if_pos hp12]
          have H2 := Lib.hid h2
          clear h2
          go_wp2
          go_ret
          exact ⟨by rw [H2.out]; rfl, Hm03.out⟩
        · have hp12' : ¬ (p : Int) = 12 := by omega
          have h2 : R = 0 := by rw [H1.out, if_neg hp12]
          have H2 := Lib.hid h2
          clear h2
          go_wp2
          go_ret
          exact ⟨by rw [H2.out]; rfl, Hm03.out⟩
    · cases S with
      | true =>
        have h1 : R = 0 := by rw [HRv.out, if_neg hk0]; rfl
        have H1 := Lib.hid h1
        have E5 := Lib.hid e5
        clear h1 e5 e4 hw'
        go_wp2
        go_ret
        exact ⟨by rw [H1.out]; rfl, E5.out⟩
      | false =>
        have h1 : R = 3 := by rw [HRv.out, if_neg hk0]; rfl
        have H1 := Lib.hid h1
        have E5 := Lib.hid e5
        clear h1 e5 e4 hw'
        go_wp2
        go_ret
        exact ⟨by rw [H1.out]; rfl, E5.out⟩
end Go.Proofs.YtaenebdppkjhoaaGreatDoor

namespace Go.Proofs.YtaenebdppkjhoaaGreatDoor
set_option maxRecDepth 20000
open Go.RowKit

def Att.canon (a : Att) : Att := ⟨a.name, a.v.canon⟩
end Go.Proofs.YtaenebdppkjhoaaGreatDoor

namespace Go.Proofs.YtaenebdppkjhoaaGreatDoor
set_option maxRecDepth 20000
open Go.RowKit

theorem rises_pair {l : List Att} : rises l ↔ l.Pairwise (fun x y => Op.bytesLess x.name.data.toList y.name.data.toList = true) := by
  rw [List.pairwise_iff_getElem]
  constructor
  · intro h i j hi hj hij
    exact h i j _ _ hij (List.getElem?_eq_getElem hi) (List.getElem?_eq_getElem hj)
  · intro h i j x y hij hx hy
    obtain ⟨h1, rfl⟩ := List.getElem?_eq_some_iff.1 hx
    obtain ⟨h2, rfl⟩ := List.getElem?_eq_some_iff.1 hy
    exact h i j h1 h2 hij
theorem rises.sub {l m : List Att} (h : rises l) (hs : m.Sublist l) : rises m := rises_pair.2 ((rises_pair.1 h).sublist hs)
end Go.Proofs.YtaenebdppkjhoaaGreatDoor

namespace Go.Proofs.YtaenebdppkjhoaaGreatDoor
set_option maxRecDepth 20000
open Go.RowKit

theorem nm_size {s : ByteArray} (h : isName s = true) : s.size ≤ 12 := by
  unfold isName at h
  simp only [Bool.and_eq_true, decide_eq_true_eq] at h
  exact h.2.2
theorem cut_sz (s : ByteArray) : s.size ≤ (cutS s).1.size + 1 + (cutS s).2.1.size := by
  unfold cutS
  split
  · simp only [ByteArray.size_extract]
    omega
  · show s.size ≤ s.size + 1 + _
    omega
theorem scN_size : ∀ (f : Nat) (s : ByteArray) (k : Nat), scN f s = some k → s.size ≤ 13 * k
  | 0, s, k, h => by cases h
  | f + 1, s, k, h => by
    rw [scN_succ] at h
    have hc := cut_sz s
    by_cases h1 : isName (cutS s).1 = true
    · rw [if_pos h1] at h
      have hn := nm_size h1
      by_cases h2 : (cutS s).2.2 = true
      · rw [if_pos h2] at h
        cases h3 : scN f (cutS s).2.1 with
        | none => rw [h3] at h; cases h
        | some k' =>
          rw [h3] at h
          have h4 : k' + 1 = k := by simpa using h
          have := scN_size f _ k' h3
          omega
      · rw [if_neg h2] at h
        have h4 : (cutS s).1 = s := by
          unfold cutS at h2 ⊢
          split
          · rename_i h5; rw [if_pos h5] at h2; exact absurd rfl h2
          · rfl
        rw [h4] at hn
        have h4 : 1 = k := by simpa using h
        omega
    · rw [if_neg h1] at h; cases h
theorem scRight_size {s : ByteArray} (h : scRight s = true) : s.size ≤ 52 := by
  unfold scRight at h
  rw [Bool.or_eq_true] at h
  rcases h with h | h
  · rw [List.isEmpty_iff, ByteArray.toList_eq] at h
    have : s.size = s.data.toList.length := by rw [Array.length_toList]; rfl
    rw [this, h]
    exact Nat.zero_le _
  · unfold scM at h
    cases h1 : scN (s.size + 1) s with
    | none => rw [h1] at h; cases h
    | some k =>
      rw [h1] at h
      have := scN_size _ _ _ h1
      simp only [decide_eq_true_eq] at h
      omega
/-- What a right filter is like. -/
theorem fil_bounds {sc : ByteArray} {l : List Cnd} (h : filRight sc l = true) : sc.size ≤ 52 ∧ l.length ≤ 6 ∧ ∀ c ∈ l, c.name.size ≤ 12 ∧ (0 ≤ c.op ∧ c.op ≤ 7) ∧ (0 ≤ c.v.kind ∧ c.v.kind ≤ 3) ∧ c.v.text.size ≤ 40 := by
  unfold filRight at h
  simp only [Bool.and_eq_true, List.all_eq_true, decide_eq_true_eq] at h
  refine ⟨scRight_size h.2.1, h.2.2, fun c hc => ?_⟩
  have h1 := h.1 c hc
  unfold Cnd.rightB V.right at h1
  simp only [Bool.and_eq_true, decide_eq_true_eq] at h1
  exact ⟨nm_size h1.1, ⟨h1.2.1, h1.2.2.1⟩, ⟨h1.2.2.2.1, h1.2.2.2.2.1⟩, h1.2.2.2.2.2⟩
end Go.Proofs.YtaenebdppkjhoaaGreatDoor
