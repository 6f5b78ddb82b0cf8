/-
  Package table: All.
  filter.Covers over whatever cond.Implies answers; acl.MayObserve over whatever filter.Covers answers.
-/
import Derived.Test.YtloplmaekonenaaGreatDoorZd33
import Derived.Test.YtloplmaekonenaaGreatDoorZd34
import Derived.Test.YtloplmaekonenaaGreatDoorZd25
import Derived.Test.YtloplmaekonenaaGreatDoorZd24
import Derived.Test.YtloplmaekonenaaGreatDoorZd23
namespace Go.Proofs.YtloplmaekonenaaGreatDoor
set_option maxRecDepth 20000
open Go.RowKit Go.Sort

theorem skeys_at (mb : Option Nat) (w : World) : Calls Tryz.prog 57 #[.map mb] w fun e w' => e = .returned (.func (.func 96) #[] #[.pointer (some ⟨w.heap.size, 0, none⟩)]) ∧ w' = w.alloc (.cells #[.map mb] 61) :=
  Tryz.maps_Keys_57 mb w
theorem ssorted_at {w : World} {b n : Nat} {f : Lit → Option Value} (h : MapR w 9 b n f) (hn : n ≤ 1000000) {L : List (List UInt8)} (hnd : L.Nodup) (hm : ∀ x, x ∈ L ↔ (f (.string x)).isSome = true) :
    Calls Tryz.prog 56 #[.func (.func 96) #[] #[.pointer (some ⟨w.heap.size, 0, none⟩)]] (w.alloc (.cells #[.map (some b)] 61)) (SortedPost (w.alloc (.cells #[.map (some b)] 61)) 9 ((riseS L).map encStr)) := by
  obtain ⟨D, h1, h2, h3⟩ := h.keysS keyed_s Tryz.underlying9 hnd hm
  refine (Tryz.slices_Sorted_57 b n D rawR w h1 (by rw [h3]; unfold maxLen; omega) (by rw [h3]; omega)).mono ?_
  rintro e w' ⟨v, ss, rfl, hp, hrow, -, hb⟩
  obtain ⟨r1, r2⟩ := own_row' hrow
  have hs : ss.mergeSort (fun x y => decide (x ≤ y)) = riseS L := mergeSort_of_perm (hp.trans h2.symm)
  have hl : ss.length = (riseS L).length := by rw [← hs, List.length_mergeSort]
  rw [hs, hl] at r1
  exact ⟨v, rfl, by rw [List.length_map]; exact r1, r2, ⟨hb.os, hb.tape, hb.output, hb.size, fun k hk _ => hb.block k hk⟩⟩
/-- A cell of a slice of values of one cell each. -/
theorem rd_one {α : Type} {enc : α → Value} {w : World} {a : Option Addr} {n cap : Nat} {l : List α} {j : Nat} {x : α} (h : RdSl w 1 (.slice a n cap) n (l.map enc)) (hx : l[j]? = some x) : ∃ g off, a = some ⟨g, off, none⟩ ∧ w.cell? ⟨g, off + j, none⟩ = some (enc x) := by
  obtain ⟨h0, a', c', h1, -, h3, h4⟩ := h
  cases h1
  have hj := (List.getElem?_eq_some_iff.1 hx).1
  have hn : n = l.length := by rw [List.length_map] at h0; omega
  cases a with
  | none => exact absurd (h3 rfl) (by omega)
  | some ad =>
    obtain ⟨g, off, rfl, hc⟩ := h4 ad rfl (by omega)
    refine ⟨g, off, rfl, hc j (enc x) ?_⟩
    rw [List.getElem?_map, hx]
    rfl
/-- A filter's conditions lie in blocks of C. -/
def FrC (w : World) (C : Nat → Prop) (f : Fr) : Prop := OwnSl w 81 7 (.slice f.a f.cs.length f.c) f.cs.length (cnds f.cs) ∧ ∀ k, (Value.slice f.a f.cs.length f.c).ownBlock = some k → k < w.heap.size ∧ C k
theorem FrC.mod {w w' : World} {F C : Nat → Prop} {f : Fr} (h : FrC w C f) (hm : Mod F w w') (hF : ∀ k, k < w.heap.size → F k → ¬ C k) : FrC w' C f := ⟨h.1.mod hm (fun k hk hf => hF k (h.2 k hk).1 hf (h.2 k hk).2), fun k hk => ⟨Nat.lt_of_lt_of_le (h.2 k hk).1 hm.size, (h.2 k hk).2⟩⟩
theorem fil_fr {w : World} {own C : Nat → Prop} {v : Option Value} {q : Option Fil} (h : FilIs w own C v q) (hq : q ≠ none) : ∃ f : Fr, v = some (.agg #[.string f.sc, .slice f.a f.cs.length f.c]) ∧ q = some f.fil ∧ FrC w C f := by
  cases v <;> cases q
  · exact absurd rfl hq
  · exact h.elim
  · exact h.elim
  · rename_i v q
    obtain ⟨a, cap, rfl, h2, h3⟩ := h
    exact ⟨⟨q.1, a, cap, q.2⟩, rfl, rfl, h2, fun k hk => ⟨(h3 k hk).1, (h3 k hk).2.2⟩⟩
theorem filsT : SliceT Tryz.prog 45 29 2 40 := sliceT (by kernel_rfl) (by kernel_rfl)
/-- What All leaves. -/
def TAllPost (w : World) (C : Nat → Prop) (L : List Fil) (e : Ending) (w' : World) : Prop :=
  ∃ v, ∃ l : List Fr, e = .returned v ∧ OwnSl w' 29 2 v l.length (l.flatMap Fr.cells) ∧ (∀ k, v.ownBlock = some k → w.heap.size ≤ k) ∧ l.map Fr.fil = L ∧ (∀ f ∈ l, FrC w' C f) ∧ Mod (fun _ => False) w w'
/-- A round of the loop that collects. -/
def AllRel (w1 : World) (C : Nat → Prop) (K : List (List UInt8)) (g : List UInt8 → Option Fil) (ov iv : Value) (wr : World) : Prop :=
  ∃ (j : Nat) (l : List Fr) (oa : Option Addr) (oc : Nat), iv = .int .i64 j ∧ j ≤ K.length ∧ l.length ≤ j ∧ ov = .slice oa l.length oc ∧ l.map Fr.fil = (K.take j).filterMap g ∧ OwnSl wr 29 2 ov l.length (l.flatMap Fr.cells) ∧ (∀ k, ov.ownBlock = some k → w1.heap.size ≤ k) ∧ (∀ f ∈ l, FrC wr C f) ∧ Mod (fun _ => False) w1 wr

end Go.Proofs.YtloplmaekonenaaGreatDoor

namespace Go.Proofs.YtloplmaekonenaaGreatDoor
set_option maxRecDepth 20000
open Go.RowKit

theorem callCov1 : ∀ (args : Array Value) (W : World), Sem.run Tryz.prog (callFunc 138 args) W = .ok (.enter 138 args) W := fun args w => by simp [go_sem]

/-- The closure: c is captured. -/
theorem cov1_at (p : Bool) (c d : Cnd) (k : Nat) (w : World) (hk : w.heap[k]? = some (.cells c.cells.toArray 81 (0, 0)))
    (hp : ∀ wx, Mod (fun _ => False) w wx → Calls Tryz.prog 133 #[.agg d.cells.toArray, .agg c.cells.toArray] wx fun e w' => e = .returned (.bool p) ∧ Mod (fun _ => False) wx w') :
    Calls Tryz.prog 138 (#[.agg d.cells.toArray] ++ #[.pointer (some ⟨k, 0, none⟩)]) w fun e w' => e = .returned (.bool p) ∧ Mod (fun _ => False) w w' := by
  obtain ⟨wa, hwa⟩ : ∃ wa : World, w.alloc (.cells d.cells.toArray 81) = wa := ⟨_, rfl⟩
  have hmwa : Mod (fun _ => False) w wa := hwa ▸ (Mod.refl (fun _ => False) w).alloc _
  have hgwa := heap_alloc_new w (.cells d.cells.toArray 81)
  rw [hwa] at hgwa
  have hzwa : wa.heap.size = w.heap.size + 1 := by rw [← hwa]; simp
  have hkl := (Array.getElem?_eq_some_iff.1 hk).1
  have hka := hmwa.heap hk (fun h => h)
  have hpa := hp wa hmwa
  have Hwa := Lib.hid hwa
  have Hmwa := Lib.hid hmwa
  have Hgwa := Lib.hid hgwa
  have Hka := Lib.hid hka
  have Hpa := Lib.hid hpa
  clear hwa hmwa hgwa hka hpa hzwa hk hp
  show Calls Tryz.prog 138 #[.agg d.cells.toArray, .pointer (some ⟨k, 0, none⟩)] w _
  go_enter Tryz.func138, Tryz.ntmps138
  go_wp2_with (first | (rw [show w.alloc _ = wa from Hwa.out]) | ((with_reducible refine wpList_load_lit 81 (.tmp 2) ?_); refine ⟨w.heap.size, 0, rfl, d.cells, CellsAt.row Hgwa.out, by kernel_rfl, by kernel_rfl, ?_⟩) | ((with_reducible refine wpList_load_lit 81 (.tmp 1) ?_); refine ⟨k, 0, rfl, c.cells, CellsAt.row Hka.out, by kernel_rfl, by kernel_rfl, ?_⟩) | fail)
  refine Hpa.out.mono ?_
  rintro e w2 ⟨rfl, hm2⟩
  have Hm2 := Lib.hid (Hmwa.out.trans hm2 (fun _ _ h => h))
  clear hm2
  go_wp2
  go_ret
  exact ⟨rfl, Hm2.out⟩

set_option maxHeartbeats 4000000 in
theorem covers_over (f : Cnd → Cnd → Bool) (w : World) (sc : ByteArray) (cv : Value) (l : List Cnd) (hv : RdSl w 7 cv l.length (cnds l)) (hll : l.length ≤ 9223372036854775807) (hsc : sc.size ≤ 9223372036854775807)
    (gs : ByteArray) (gv : Value) (m : List Cnd) (hg : RdSl w 7 gv m.length (cnds m)) (hml : m.length ≤ 9223372036854775807) (hgs : gs.size ≤ 9223372036854775807)
    (hp : ∀ d ∈ m, ∀ c ∈ l, ∀ wx, Mod (fun _ => False) w wx → Calls Tryz.prog 133 #[.agg d.cells.toArray, .agg c.cells.toArray] wx fun e w' => e = .returned (.bool (f d c)) ∧ Mod (fun _ => False) wx w') :
    Calls Tryz.prog 97 #[.agg #[.string sc, cv], .agg #[.string gs, gv]] w fun e w' => e = .returned (.bool (m.any Cnd.voidB || (l.all (fun c => m.any fun d => f d c) && underB gs sc))) ∧ Mod (fun _ => False) w w' := by
  obtain ⟨a, cap, rfl, hcap⟩ : ∃ a c, cv = .slice a l.length c ∧ l.length ≤ c := by obtain ⟨-, a, c, h, h2, -⟩ := hv; exact ⟨a, c, h, h2⟩
  obtain ⟨ga, gcap, rfl, hgcap⟩ : ∃ a c, gv = .slice a m.length c ∧ m.length ≤ c := by obtain ⟨-, a, c, h, h2, -⟩ := hg; exact ⟨a, c, h, h2⟩
  have hll' : (l.length : Int) ≤ 9223372036854775807 := by omega
  have hcap' : (l.length : Int) ≤ cap := by omega
  obtain ⟨wa, hwa⟩ : ∃ wa : World, w.alloc (.cells #[.string sc, .slice a l.length cap] 29) = wa := ⟨_, rfl⟩
  have hmwa : Mod (fun _ => False) w wa := hwa ▸ (Mod.refl (fun _ => False) w).alloc _
  have hgwa := heap_alloc_new w (.cells #[.string sc, .slice a l.length cap] 29)
  rw [hwa] at hgwa
  have hzwa : wa.heap.size = w.heap.size + 1 := by rw [← hwa]; simp
  obtain ⟨wb, hwb⟩ : ∃ wb : World, wa.alloc (.cells #[.string gs, .slice ga m.length gcap] 29) = wb := ⟨_, rfl⟩
  have hmwb : Mod (fun _ => False) wa wb := hwb ▸ (Mod.refl (fun _ => False) wa).alloc _
  have hgwb := heap_alloc_new wa (.cells #[.string gs, .slice ga m.length gcap] 29)
  rw [hwb] at hgwb
  have hzwb : wb.heap.size = wa.heap.size + 1 := by rw [← hwb]; simp
  have hmb := hmwa.trans hmwb (fun _ _ h => h)
  have hF := hmwb.heap hgwa (fun h => h)
  have d0 : wb.cell? ⟨wa.heap.size, 0, none⟩ = some (.string gs) := cell_of hgwb rfl
  have d1 : wb.cell? ⟨wa.heap.size, 1, none⟩ = some (.slice ga m.length gcap) := cell_of hgwb rfl
  have hvd := filter_void wb gs (.slice ga m.length gcap) m (hg.mod hmb (fun _ _ h => h)) hml
  obtain ⟨R, hR⟩ : ∃ R, (m.any Cnd.voidB || (l.all (fun c => m.any fun d => f d c) && underB gs sc)) = R := ⟨_, rfl⟩
  rw [hR]
  have hqz : w.heap.size < wa.heap.size := by omega
  have Hv := Lib.hid hv
  have Hg := Lib.hid hg
  have Hp := Lib.hid hp
  have Hwa := Lib.hid hwa
  have Hwb := Lib.hid hwb
  have Hmb := Lib.hid hmb
  have HF := Lib.hid hF
  have Hgwb := Lib.hid hgwb
  have Hvd := Lib.hid hvd
  have HR := Lib.hid hR
  have Hsc := Lib.hid hsc
  have Hgs := Lib.hid hgs
  have Hml := Lib.hid hml
  clear hv hg hp hwa hwb hmb hF hgwb hvd hR hsc hgs hml hmwa hmwb hgwa hzwa hzwb hll
  go_enter Tryz.func97, Tryz.ntmps97
  go_wp2_with (first | (rw [show w.alloc _ = wa from Hwa.out]) | (rw [show wa.alloc _ = wb from Hwb.out]) | fail)
  refine Hvd.out.mono ?_
  rintro e w1 ⟨rfl, hm1⟩
  have hm01 := Hmb.out.trans hm1 (fun _ _ h => h)
  have hF1 := hm1.heap HF.out (fun h => h)
  have hG1 := hm1.heap Hgwb.out (fun h => h)
  have c1 : w1.cell? ⟨w.heap.size, 1, none⟩ = some (.slice a l.length cap) := cell_of hF1 rfl
  have hv1 := Hv.out.mod hm01 (fun _ _ h => h)
  have Hm01 := Lib.hid hm01
  have HF1 := Lib.hid hF1
  have HG1 := Lib.hid hG1
  have Hv1 := Lib.hid hv1
  clear hm01 hF1 hG1 hv1 hm1 d0 d1 Hvd
  cases hvo : m.any Cnd.voidB with
  | true =>
    have Hvo := Lib.hid hvo
    clear hvo
    go_wp2
    go_ret
    exact ⟨by rw [← HR.out, Hvo.out]; rfl, Hm01.out⟩
  | false =>
  have HR := Lib.hid (show (l.all (fun c => m.any fun d => f d c) && underB gs sc) = R by rw [← HR.out, hvo]; rfl)
  clear hvo
  go_wp2_with fail
  go_loopw [12] (fun i wr => ∃ j : Nat, i = .int .i64 j ∧ j ≤ l.length ∧ Mod (fun _ => False) w1 wr ∧ (∀ (k : Nat) (x : Cnd), k < j → l[k]? = some x → (m.any fun d => f d x) = true)) (fun i _ => l.length - (intOf i).toNat)
  case atStart => exact ⟨0, rfl, Nat.zero_le _, Mod.refl _ _, fun k x hk => by omega⟩
  case round =>
    obtain ⟨j, rfl, hj, hmr, hall⟩ := hrel
    by_cases hlt : j < l.length
    · have hlt' : (j : Int) < l.length := by omega
      obtain ⟨x, hxj⟩ : ∃ x, l[j]? = some x := ⟨_, List.getElem?_eq_getElem hlt⟩
      have hxm := List.mem_of_getElem? hxj
      obtain ⟨g, off, rfl, hf⟩ : ∃ g off, a = some ⟨g, off, none⟩ ∧ CellsAt wr g (off + j * 7) x.cells := rd_cnd (Hv1.out.mod hmr (fun _ _ h => h)) hxj
      obtain ⟨wz, hwz⟩ : ∃ wz : World, wr.alloc (.cells x.cells.toArray 81) = wz := ⟨_, rfl⟩
      have hmwz : Mod (fun _ => False) wr wz := hwz ▸ (Mod.refl (fun _ => False) wr).alloc _
      have hgwz := heap_alloc_new wr (.cells x.cells.toArray 81)
      rw [hwz] at hgwz
      have hzwz : wz.heap.size = wr.heap.size + 1 := by rw [← hwz]; simp
      have hmz := hmr.trans hmwz (fun _ _ h => h)
      have hm0z := Hm01.out.trans hmz (fun _ _ h => h)
      have hge := hmz.heap HG1.out (fun h => h)
      have e1 : wz.cell? ⟨wa.heap.size, 1, none⟩ = some (.slice ga m.length gcap) := cell_of hge rfl
      have hct := contains_at 138 #[.pointer (some ⟨wr.heap.size, 0, none⟩)] callCov1 (fun d => f d x) wz (.slice ga m.length gcap) m (Hg.out.mod hm0z (fun _ _ h => h)) Hml.out
        (fun d hd wx hwx => cov1_at (f d x) x d wr.heap.size wx (hwx.heap hgwz (fun h => h)) (fun wy hwy => Hp.out d hd x hxm wy ((hm0z.trans hwx (fun _ _ h => h)).trans hwy (fun _ _ h => h))))
      have hmf : ∀ (fn : Fn) (first cap : Array Value) (w : World), (Instr.makeFunc fn first cap).run Tryz.prog w = .ok (.func fn first cap) w := fun _ _ _ _ => rfl
      have Hmr := Lib.hid hmr
      have Hall := Lib.hid hall
      have Hxj := Lib.hid hxj
      have Hxm := Lib.hid hxm
      have Hf := Lib.hid hf
      have Hwz := Lib.hid hwz
      have Hgwz := Lib.hid hgwz
      have Hmz := Lib.hid hmz
      have Hct := Lib.hid hct
      have Hm0z := Lib.hid hm0z
      clear hmr hall hxj hxm hf hwz hgwz hmz hct hm0z hzwz hmwz hge c1
      go_wp2_with (first | ((with_reducible refine wpList_load_lit 81 (.tmp 14) ?_); refine ⟨g, off + j * 7, rfl, x.cells, Hf.out, by kernel_rfl, by kernel_rfl, ?_⟩) | ((with_reducible refine wpList_store_lit 81 (.tmp 6) (.tmp 15) ?_); refine ⟨rfl, x.cells, rfl, rfl, by kernel_rfl, rfl, ?_⟩; rw [Hwz.out]) | fail)
      refine Hct.out.mono ?_
      rintro e w3 ⟨rfl, hm3⟩
      have Hm3 := Lib.hid (Hmz.out.trans hm3 (fun _ _ h => h))
      clear hm3 e1
      cases hs : m.any (fun d => f d x) with
      | true =>
        have Hs := Lib.hid hs
        clear hs
        go_wp2_with fail
        go_roundw
        case rel =>
          refine ⟨j + 1, by go_num, hlt, Hm3.out, fun k x' hk hx' => ?_⟩
          rcases Nat.lt_succ_iff_lt_or_eq.1 hk with hk | rfl
          · exact Hall.out k x' hk hx'
          · rw [Hxj.out] at hx'; cases hx'; exact Hs.out
        case measure => simp [intOf]; omega
      | false =>
        have Hs := Lib.hid hs
        clear hs
        go_wp2
        go_ret
        refine ⟨?_, Hm01.out.trans Hm3.out (fun _ _ h => h)⟩
        rw [← HR.out, List.all_eq_false.2 ⟨x, Hxm.out, by rw [Hs.out]; decide⟩, Bool.false_and]
        rfl
    · obtain rfl : j = l.length := by omega
      have hgr := hmr.heap HF1.out (fun h => h)
      have hge := hmr.heap HG1.out (fun h => h)
      have c0 : wr.cell? ⟨w.heap.size, 0, none⟩ = some (.string sc) := cell_of hgr rfl
      have e0 : wr.cell? ⟨wa.heap.size, 0, none⟩ = some (.string gs) := cell_of hge rfl
      have hun := under_at gs sc Hgs.out Hsc.out wr
      have hfr : R = underB gs sc := by
        rw [← HR.out, List.all_eq_true.2 fun x hx => by
          obtain ⟨k, hk⟩ := List.mem_iff_getElem?.1 hx
          exact hall k x (List.getElem?_eq_some_iff.1 hk).1 hk, Bool.true_and]
      have hmr2 := Hm01.out.trans hmr (fun _ _ h => h)
      have Hmr2 := Lib.hid hmr2
      have Hun := Lib.hid hun
      have Hfr := Lib.hid hfr
      clear hmr2 hun hfr hmr hall hgr hge
      go_wp2_with fail
      refine Hun.out.mono ?_
      rintro e w3 ⟨rfl, rfl⟩
      go_wp2
      go_ret
      refine ⟨?_, Hmr2.out⟩
      rw [Hfr.out]
      rfl

end Go.Proofs.YtloplmaekonenaaGreatDoor
