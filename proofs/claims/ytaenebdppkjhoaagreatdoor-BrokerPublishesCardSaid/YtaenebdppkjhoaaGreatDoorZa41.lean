/-
  Package policy: At; a log of no rules.
-/
import Derived.Test.YtaenebdppkjhoaaGreatDoorZa40
namespace Go.Proofs.YtaenebdppkjhoaaGreatDoor
set_option maxRecDepth 20000
open Go.RowKit

/-- The rules that count by a version. -/
def atR (l : List Ru) (n : Nat) : List Ru := (l.take n).zipIdx.filterMap fun q => if decide (q.1.kind = 4) || goneP (l.map Ru.pru) q.2 n then none else some q.1
theorem filterMap_zip {α β : Type} (f : α → β) (l : List α) (k : Nat) (p : β → Nat → Bool) : ((l.zipIdx k).filterMap fun q => if p (f q.1) q.2 then none else some q.1).map f = ((l.map f).zipIdx k).filterMap fun q => if p q.1 q.2 then none else some q.1 := by
  induction l generalizing k with
  | nil => rfl
  | cons a l ih =>
    rw [List.map_cons, List.zipIdx_cons, List.zipIdx_cons, List.filterMap_cons, List.filterMap_cons]
    cases h : p (f a) k
    · simp only [Bool.false_eq_true, if_false, List.map_cons]
      rw [ih]
    · simp only [if_true]
      exact ih (k + 1)
theorem atR_pru (l : List Ru) (n : Nat) : (atR l n).map Ru.pru = atP (l.map Ru.pru) n := by
  unfold atR atP
  rw [← List.map_take]
  exact filterMap_zip Ru.pru (l.take n) 0 (fun r i => decide (r.kind = 4) || goneP (l.map Ru.pru) i n)
def atJ (l : List Ru) (n j : Nat) : List Ru := ((l.take n).take j).zipIdx.filterMap fun q => if decide (q.1.kind = 4) || goneP (l.map Ru.pru) q.2 n then none else some q.1
theorem atJ_succ {l : List Ru} {n j : Nat} {x : Ru} (h : (l.take n)[j]? = some x) : atJ l n (j + 1) = atJ l n j ++ if decide (x.kind = 4) || goneP (l.map Ru.pru) j n then [] else [x] := by
  unfold atJ
  rw [List.take_add_one, h, Option.toList_some, List.zipIdx_append, List.filterMap_append]
  congr 1
  have hl : ((l.take n).take j).length = j := by have := (List.getElem?_eq_some_iff.1 h).1; rw [List.length_take]; omega
  rw [hl, Nat.zero_add]
  simp only [List.zipIdx_cons, List.zipIdx_nil, List.filterMap_cons, List.filterMap_nil]
  split <;> rename_i h1 <;> split at h1 <;> simp_all
theorem atJ_all (l : List Ru) {n : Nat} (hn : n ≤ l.length) : atJ l n n = atR l n := by
  unfold atJ atR
  rw [List.take_of_length_le (by rw [List.length_take]; omega)]
theorem atJ_len (l : List Ru) (n j : Nat) : (atJ l n j).length ≤ j := by
  unfold atJ
  refine Nat.le_trans (List.length_filterMap_le _ _) ?_
  rw [List.length_zipIdx, List.length_take]
  omega
/-- What At leaves. -/
def AtPost (w : World) (l : List Ru) (n : Nat) (e : Ending) (w' : World) : Prop :=
  ∃ v, e = .returned v ∧ OwnSl w' 35 8 v (atR l n).length (rus (atR l n)) ∧ (∀ b, v.ownBlock = some b → w.heap.size ≤ b) ∧ Mod (fun _ => False) w w'
/-- A version, brought to what there is. -/
def clampV (vr : Int) (n : Nat) : Nat := (min (max vr 0) n).toNat

set_option maxHeartbeats 4000000 in
theorem pat_at (w : World) (g : Nat) (a : Option Addr) (cap : Nat) (l : List Ru) (c0 : w.cell? ⟨g, 0, none⟩ = some (.slice a l.length cap)) (hv : RuSl w (.slice a l.length cap) l) (hll : l.length ≤ 1000) (vr : Int) :
    Calls Tryz.prog 16 #[.pointer (some ⟨g, 0, none⟩), .int .i64 vr] w (AtPost w l (clampV vr l.length)) := by
  have hcap : l.length ≤ cap := by obtain ⟨-, a', c', h, h2, -⟩ := hv.rd; cases h; exact h2
  obtain ⟨n, hn⟩ : ∃ n, clampV vr l.length = n := ⟨_, rfl⟩
  have hnn : min (max vr 0) (l.length : Int) = n := by unfold clampV at hn; omega
  have hnl : n ≤ l.length := by omega
  rw [hn]
  have hcap' : (n : Int) ≤ cap := by omega
  have hn0 : (0 : Int) ≤ n := by omega
  have hv2 := hv.take hnl
  have hl2 : (l.take n).length = n := by rw [List.length_take]; omega
  rw [show Value.slice a n cap = Value.slice a (l.take n).length cap by rw [hl2]] at hv2
  have Hv := Lib.hid hv
  have Hv2 := Lib.hid hv2
  have Hl2 := Lib.hid hl2
  have Hn := Lib.hid hn
  clear hv hv2 hl2 hn hcap
  go_enter Tryz.func16, Tryz.ntmps16
  go_wp2_with fail
  go_loopw [5, 23] (fun ov i wr => ∃ (j : Nat) (oa : Option Addr) (oc : Nat), i = .int .i64 j ∧ j ≤ n ∧ ov = .slice oa (atJ l n j).length oc ∧ OwnSl wr 35 8 (.slice oa (atJ l n j).length oc) (atJ l n j).length (rus (atJ l n j)) ∧ (∀ b, (Value.slice oa (atJ l n j).length oc).ownBlock = some b → w.heap.size ≤ b) ∧ Mod (fun _ => False) w wr) (fun _ i _ => n - (intOf i).toNat)
  case atStart => exact ⟨0, none, 0, rfl, Nat.zero_le _, rfl, OwnSl.nil _ _ _, fun b hb => (by cases hb), Mod.refl _ _⟩
  case round =>
    obtain ⟨j, oa, oc, rfl, hj, rfl, how, hob, hmr⟩ := hrel
    by_cases hlt : j < n
    · have hlt' : (j : Int) < n := by omega
      obtain ⟨x, hxj⟩ : ∃ x, (l.take n)[j]? = some x := ⟨_, List.getElem?_eq_getElem (by rw [Hl2.out]; exact hlt)⟩
      obtain ⟨g2, off, rfl, hf⟩ : ∃ g2 off, a = some ⟨g2, off, none⟩ ∧ CellsAt wr g2 (off + j * 8) x.cells := rd_rule (Hv2.out.mod hmr) hxj
      obtain ⟨wz, hwz⟩ : ∃ wz : World, wr.alloc (.cells x.cells.toArray 35) = wz := ⟨_, rfl⟩
      have hmwz : Mod (fun _ => False) wr wz := hwz ▸ (Mod.refl (fun _ => False) wr).alloc _
      have hgwz := heap_alloc_new wr (.cells x.cells.toArray 35)
      rw [hwz] at hgwz
      have hzwz : wz.heap.size = wr.heap.size + 1 := by rw [← hwz]; simp
      have hmz := hmr.trans hmwz (fun _ _ h => h)
      have hsu := atJ_succ hxj
      have hjl := atJ_len l n j
      obtain ⟨acc, hacc⟩ : ∃ acc, atJ l n j = acc := ⟨_, rfl⟩
      obtain ⟨nx, hnx⟩ : ∃ nx, atJ l n (j + 1) = nx := ⟨_, rfl⟩
      obtain ⟨G, hG⟩ : ∃ G, goneP (l.map Ru.pru) j n = G := ⟨_, rfl⟩
      rw [hacc] at how hob hsu hjl ⊢
      rw [hnx, hG] at hsu
      have hn1000 : n ≤ 1000 := by omega
      have hgo := gone_at wz g (some ⟨g2, off, none⟩) cap l (hmz.cell c0 (fun h => h)) (Hv.out.mod hmz) hll j n hnl
      rw [hG] at hgo
      have howz := how.mod hmwz (fun _ _ h => h)
      have k0 : wz.cell? ⟨wr.heap.size, 0, none⟩ = some (.int .i64 x.kind) := cell_of hgwz rfl
      have Hmr := Lib.hid hmr
      have Hxj := Lib.hid hxj
      have Hf := Lib.hid hf
      have Hwz := Lib.hid hwz
      have Hmwz := Lib.hid hmwz
      have Hgwz := Lib.hid hgwz
      have Hmz := Lib.hid hmz
      have Hsu := Lib.hid hsu
      have Hgo := Lib.hid hgo
      have Howz := Lib.hid howz
      have Hob := Lib.hid hob
      have Hnx := Lib.hid hnx
      have Hacc := Lib.hid hacc
      clear hmr hxj hf hwz hmwz hgwz hmz hsu hgo howz hob hnx hacc hzwz how
      by_cases hk4 : x.kind = 4
      · have hn2 : nx = acc := by rw [Hsu.out, decide_eq_true hk4]; simp
        have hb4 : (x.kind != 4) = false := by simp [hk4]
        have Hn2 := Lib.hid hn2
        clear hn2
        go_wp2_with (first | ((with_reducible refine wpList_load_lit 35 (.tmp 26) ?_); refine ⟨g2, off + j * 8, rfl, x.cells, Hf.out, by kernel_rfl, by kernel_rfl, ?_⟩) | ((with_reducible refine wpList_store_lit 35 (.tmp 7) (.tmp 27) ?_); refine ⟨rfl, x.cells, rfl, rfl, by kernel_rfl, rfl, ?_⟩; rw [Hwz.out]) | fail)
        go_roundw
        case rel => exact ⟨j + 1, oa, oc, by go_num, hlt, by rw [Hnx.out, Hn2.out], by rw [Hnx.out, Hn2.out]; exact Howz.out, by rw [Hnx.out, Hn2.out]; exact Hob.out, Hmz.out⟩
        case measure => simp [intOf]; omega
      · have hb4 : (x.kind != 4) = true := by simpa using hk4
        go_wp2_with (first | ((with_reducible refine wpList_load_lit 35 (.tmp 26) ?_); refine ⟨g2, off + j * 8, rfl, x.cells, Hf.out, by kernel_rfl, by kernel_rfl, ?_⟩) | ((with_reducible refine wpList_store_lit 35 (.tmp 7) (.tmp 27) ?_); refine ⟨rfl, x.cells, rfl, rfl, by kernel_rfl, rfl, ?_⟩; rw [Hwz.out]) | fail)
        refine Hgo.out.mono ?_
        rintro e w3 ⟨rfl, hm3⟩
        have hm03 := Hmz.out.trans hm3 (fun _ _ h => h)
        have how3 := Howz.out.mod hm3 (fun _ _ h => h)
        have hg3 := hm3.heap Hgwz.out (fun h => h)
        cases G with
        | true =>
          have hn2 : nx = acc := by rw [Hsu.out]; simp
          have Hn2 := Lib.hid hn2
          have Hm03 := Lib.hid hm03
          have How3 := Lib.hid how3
          have Hg3 := Lib.hid hg3
          have Hm3 := Lib.hid hm3
          clear hn2 hm03 how3 hg3 hm3
          go_wp2_with fail
          go_roundw
          case rel => exact ⟨j + 1, oa, oc, by go_num, hlt, by rw [Hnx.out, Hn2.out], by rw [Hnx.out, Hn2.out]; exact How3.out, by rw [Hnx.out, Hn2.out]; exact Hob.out, Hm03.out⟩
          case measure => simp [intOf]; omega
        | false =>
          have hn2 : nx = acc ++ [x] := by rw [Hsu.out, decide_eq_false hk4]; rfl
          obtain ⟨wS, hwS⟩ : ∃ wS : World, w3.alloc (.cells x.cells.toArray 35) = wS := ⟨_, rfl⟩
          have hmwS : Mod (fun _ => False) w3 wS := hwS ▸ (Mod.refl (fun _ => False) w3).alloc _
          have hgwS := heap_alloc_new w3 (.cells x.cells.toArray 35)
          rw [hwS] at hgwS
          have hzwS : wS.heap.size = w3.heap.size + 1 := by rw [← hwS]; simp
          have hrd : RdSl wS 8 (.slice (some ⟨w3.heap.size, 0, none⟩) 1 1) 1 x.cells := hwS ▸ RdSl.one w3 x.cells 35 rfl
          have hwS' : w3.alloc (.cells #[.int .i64 x.kind, .int .i64 x.tenant, .string x.who, .int .i64 x.broker, .string x.sc, .slice x.ca x.cs.length x.cc, .string x.name, .int .i64 x.at_] 35) = wS := hwS
          have hownS := how3.mod hmwS (fun _ _ h => h)
          have hm0S := hm03.trans hmwS (fun _ _ h => h)
          have hone : ∀ u ∈ x.cells, u.oneCell' = true := fun u hu => List.all_eq_true.1 (show x.cells.all (·.oneCell') = true from rfl) u hu
          have hlen : nx.length = acc.length + 1 := by rw [hn2]; simp
          have hrus : rus acc ++ x.cells = rus nx := by rw [hn2, rus_append, rus_cons]; simp [rus]
          have Hrd := Lib.hid hrd
          have HwS' := Lib.hid hwS'
          have HownS := Lib.hid hownS
          have Hm0S := Lib.hid hm0S
          have Hone := Lib.hid hone
          have Hlen := Lib.hid hlen
          have Hrus := Lib.hid hrus
          have Hg3 := Lib.hid hg3
          have Hm03 := Lib.hid hm03
          have Hm3 := Lib.hid hm3
          have How3 := Lib.hid how3
          clear hrd hwS' hownS hm0S hone hlen hrus hg3 hm03 hm3 how3 hwS hmwS hgwS hzwS hn2
          go_wp2_with (first | ((with_reducible refine wpList_load_lit 35 (.tmp 7) ?_); refine ⟨wr.heap.size, 0, rfl, [.int .i64 x.kind, .int .i64 x.tenant, .string x.who, .int .i64 x.broker, .string x.sc, .slice x.ca x.cs.length x.cc, .string x.name, .int .i64 x.at_], CellsAt.row Hg3.out, by kernel_rfl, by kernel_rfl, ?_⟩) | (rw [show w3.alloc _ = wS from HwS'.out]) | ((with_reducible refine wpList_append_lit (.tmp 38) (.tmp 40) 22 ?_); refine ⟨rfl, 35, 8, 104, rules_T2, .slice oa acc.length oc, acc.length, rus acc, rfl, HownS.out, _, 1, x.cells, rfl, Hrd.out, Hone.out, by omega, by unfold maxLen; omega, ?_⟩; intro ad cap2 w4 hA; have HA := Lib.hid hA; clear hA) | fail)
          have hown5 := HA.out.1
          rw [Hrus.out, ← Hlen.out] at hown5
          have hfr5 : ∀ b, (Value.slice ad nx.length cap2).ownBlock = some b → w.heap.size ≤ b := fun b hb => by
            rw [Hlen.out] at hb
            rcases HA.out.2.2 with h | ⟨k, h, hk⟩
            · exact Hob.out b (by rw [← h]; exact hb)
            · have h2 : (Value.slice ad (acc.length + 1) cap2).ownBlock = some b := hb
              rw [h] at h2; cases h2
              have := Hm0S.out.size
              omega
          have hm05 : Mod (fun _ => False) w w4 := Hm0S.out.upon HA.out.2.1 (fun b hb => .inr (Hob.out b hb))
          have Hown5 := Lib.hid hown5
          have Hfr5 := Lib.hid hfr5
          have Hm05 := Lib.hid hm05
          clear hown5 hfr5 hm05 HA
          go_roundw
          case rel => exact ⟨j + 1, ad, cap2, by go_num, hlt, by rw [Hnx.out, Hlen.out], by rw [Hnx.out]; exact Hown5.out, by rw [Hnx.out]; exact Hfr5.out, Hm05.out⟩
          case measure => simp [intOf]; omega
    · obtain rfl : j = n := by omega
      have he := atJ_all l hnl
      rw [he] at how hob ⊢
      have How := Lib.hid how
      have Hob := Lib.hid hob
      have Hmr := Lib.hid hmr
      clear how hob hmr
      go_wp2
      go_ret
      exact ⟨_, rfl, How.out, Hob.out, Hmr.out⟩

/-- A new log. -/
def New0Post (w : World) (ow : Ow) (c : Nat) (e : Ending) (w' : World) : Prop :=
  ∃ g ow', e = .returned (.tuple #[.pointer (some ⟨g, 0, none⟩), .int .i64 0]) ∧ LogAt w' ow' c c g [] 53 (.slice none 0 0) [] ∧ Mov (fun t => t = c) w ow w' ow' ∧ Mod (fun _ => False) w w'
set_option maxHeartbeats 1000000 in
theorem replay_at (w0 w : World) (ow : Ow) (c : Nat) (hw : Owd w0 w ow) (_h2 : 2 ≤ c) : Calls Tryz.prog 12 #[.slice none 0 0] w (New0Post w ow c) := by
  obtain ⟨wa, hwa⟩ : ∃ wa : World, w.alloc (.cells #[.slice none 0 0] 53) = wa := ⟨_, rfl⟩
  have hmwa : Mod (fun _ => False) w wa := hwa ▸ (Mod.refl (fun _ => False) w).alloc _
  have hgwa := heap_alloc_new w (.cells #[.slice none 0 0] 53)
  rw [hwa] at hgwa
  have hzwa : wa.heap.size = w.heap.size + 1 := by rw [← hwa]; simp
  have hmv : Mov (fun t => t = c) w ow wa (tagOne ow w.heap.size c) := hwa ▸ Mov.alloc hw _ c (.inr (.inr rfl))
  have hlog : LogAt wa (tagOne ow w.heap.size c) c c w.heap.size [] 53 (.slice none 0 0) [] := ⟨hgwa, tagOne_at _ _ _, ⟨OwnSl.nil _ _ _, fun b hb => (by cases hb), fun x hx => (by cases hx)⟩⟩
  have Hwa := Lib.hid hwa
  have Hmv := Lib.hid hmv
  have Hlog := Lib.hid hlog
  have Hmwa := Lib.hid hmwa
  clear hwa hmv hlog hmwa hgwa hzwa
  go_enter Tryz.func12, Tryz.ntmps12
  go_wp2_with (first | (rw [show w.alloc _ = wa from Hwa.out]) | fail)
  go_loopw [11] (fun i wr => i = .int .i64 0 ∧ wr = wa) (fun _ _ => 0)
  case atStart => exact ⟨rfl, rfl⟩
  case round =>
    obtain ⟨rfl, rfl⟩ := hrel
    go_wp2
    go_ret2
    exact ⟨w.heap.size, _, rfl, Hlog.out, Hmv.out, Hmwa.out⟩
end Go.Proofs.YtaenebdppkjhoaaGreatDoor
