/-
  What light filters and rules are like.
-/
import Derived.Test.YtaenebdppkjhoaaGreatDoorZa8
namespace Go.Proofs.YtaenebdppkjhoaaGreatDoor
set_option maxRecDepth 20000
open Go.RowKit

/-- How long a filter's texts are in all. -/
def costC (l : List Cnd) : Nat := (l.map fun c => c.name.size + c.v.text.size).sum
theorem costC_snoc (l : List Cnd) (c : Cnd) : costC (l ++ [c]) = costC l + (c.name.size + c.v.text.size) := by unfold costC; simp
theorem costC_mem {l : List Cnd} {c : Cnd} (h : c ∈ l) : c.name.size + c.v.text.size ≤ costC l := by
  unfold costC
  induction l with
  | nil => cases h
  | cons a l ih =>
    rw [List.map_cons, List.sum_cons]
    rcases List.mem_cons.1 h with rfl | h
    · omega
    · have := ih h; omega
theorem costC_le {l : List Cnd} {B : Nat} (h : ∀ c ∈ l, c.name.size ≤ B ∧ c.v.text.size ≤ B) : costC l ≤ l.length * (2 * B) := by
  unfold costC
  induction l with
  | nil => simp
  | cons a l ih =>
    rw [List.map_cons, List.sum_cons, List.length_cons, Nat.add_mul]
    have h1 := ih (fun c hc => h c (List.mem_cons_of_mem _ hc))
    have h2 := h a (List.mem_cons_self ..)
    omega
/-- What a light filter is. -/
structure LightF (sc : ByteArray) (l : List Cnd) : Prop where
  len : l.length ≤ 20
  sum : sc.size + costC l ≤ 2000
def Light7Post (w : World) (sc : ByteArray) (l : List Cnd) (e : Ending) (w' : World) : Prop := ∃ b, e = .returned (.bool b) ∧ (b = true → LightF sc l) ∧ Mod (fun _ => False) w w'
theorem wrap64_of {x : Int} (h1 : -9223372036854775808 ≤ x) (h2 : x ≤ 9223372036854775807) : wrap64 x = x := by
  simp only [wrap64]
  omega
/-- One condition more is reckoned. -/
theorem light_add {n A s t : Int} {k : Nat} (hn : n = k) (hk : k ≤ 4000000000000000000) (hs : 0 ≤ s ∧ s ≤ 140737488355328) (ht : 0 ≤ t ∧ t ≤ 140737488355328) (hA : A = wrap64 (n + wrap64 (s + t))) : A = k + (s + t) := by
  rw [hA, wrap64_of (x := s + t) (by omega) (by omega), hn, wrap64_of (by omega) (by omega)]
set_option maxHeartbeats 2000000 in
theorem light07f_at (w : World) (sc : ByteArray) (cv : Value) (l : List Cnd) (hv : RdSl w 7 cv l.length (cnds l)) (hll : l.length ≤ 9223372036854775807) (hs : sc.size ≤ 140737488355328) (hc : ∀ c ∈ l, c.name.size ≤ 140737488355328 ∧ c.v.text.size ≤ 140737488355328) :
    Calls Tryz.prog 46 #[.agg #[.string sc, cv]] w (Light7Post w sc l) := by
  obtain ⟨a, cap, rfl, hcap⟩ : ∃ a c, cv = .slice a l.length c ∧ l.length ≤ c := by obtain ⟨-, a, c, h, h2, -⟩ := hv; exact ⟨a, c, h, h2⟩
  have hll' : (l.length : Int) ≤ 9223372036854775807 := by omega
  have hcap' : (l.length : Int) ≤ cap := by omega
  obtain ⟨wa, hwa⟩ : ∃ wa : World, w.alloc (.cells #[.string sc, .slice a l.length cap] 33) = wa := ⟨_, rfl⟩
  have hmwa : Mod (fun _ => False) w wa := hwa ▸ (Mod.refl (fun _ => False) w).alloc _
  have hgwa := heap_alloc_new w (.cells #[.string sc, .slice a l.length cap] 33)
  rw [hwa] at hgwa
  have hzwa : wa.heap.size = w.heap.size + 1 := by rw [← hwa]; simp
  have hva := hv.mod hmwa (fun _ _ h => h)
  have c0 : wa.cell? ⟨w.heap.size, 0, none⟩ = some (.string sc) := cell_of hgwa rfl
  have c1 : wa.cell? ⟨w.heap.size, 1, none⟩ = some (.slice a l.length cap) := cell_of hgwa rfl
  have hqz : w.heap.size < wa.heap.size := by omega
  have Hv := Lib.hid hv
  have Hwa := Lib.hid hwa
  have Hmwa := Lib.hid hmwa
  have Hgwa := Lib.hid hgwa
  have Hva := Lib.hid hva
  have Hc := Lib.hid hc
  clear hv hwa hmwa hgwa hva hc hzwa hll
  go_enter Tryz.func46, Tryz.ntmps46
  go_wp2_with (first | (rw [show w.alloc _ = wa from Hwa.out]) | fail)
  go_loopw [3, 12] (fun n i wr => ∃ (j : Nat) (x : Int), n = .int .i64 x ∧ i = .int .i64 j ∧ j ≤ l.length ∧ (j ≤ 20 → x = ((sc.size + costC (l.take j) : Nat) : Int)) ∧ Mod (fun _ => False) wa wr) (fun _ i _ => l.length - (intOf i).toNat)
  case atStart => exact ⟨0, _, rfl, rfl, Nat.zero_le _, fun _ => by simp [costC], Mod.refl _ _⟩
  case round =>
    obtain ⟨j, n, rfl, rfl, hj, hsum, hmr⟩ := hrel
    by_cases hlt : j < l.length
    · have hlt' : (j : Int) < l.length := by omega
      obtain ⟨x, hxj⟩ : ∃ x, l[j]? = some x := ⟨_, List.getElem?_eq_getElem hlt⟩
      obtain ⟨g, off, rfl, hf⟩ : ∃ g off, a = some ⟨g, off, none⟩ ∧ CellsAt wr g (off + j * 7) x.cells := rd_cnd (Hva.out.mod hmr (fun _ _ h => h)) hxj
      obtain ⟨wz, hwz⟩ : ∃ wz : World, wr.alloc (.cells x.cells.toArray 132) = wz := ⟨_, rfl⟩
      have hmwz : Mod (fun _ => False) wr wz := hwz ▸ (Mod.refl (fun _ => False) wr).alloc _
      have hgwz := heap_alloc_new wr (.cells x.cells.toArray 132)
      rw [hwz] at hgwz
      have hzwz : wz.heap.size = wr.heap.size + 1 := by rw [← hwz]; simp
      have hmz := hmr.trans hmwz (fun _ _ h => h)
      have b0 : wz.cell? ⟨wr.heap.size, 0, none⟩ = some (.string x.name) := cell_of hgwz rfl
      have b5 : wz.cell? ⟨wr.heap.size, 5, none⟩ = some (.string x.v.text) := cell_of hgwz rfl
      have hnx : j + 1 ≤ 20 → ∀ A : Int, A = wrap64 (n + wrap64 ((x.name.size : Int) + x.v.text.size)) → A = ((sc.size + costC (l.take (j + 1)) : Nat) : Int) := fun h20 A hA => by
        have h1 := hsum (by omega)
        have h2 := Hc.out x (List.mem_of_getElem? hxj)
        have h3 : costC (l.take j) ≤ (l.take j).length * (2 * 140737488355328) := costC_le fun c hc => Hc.out c (List.mem_of_mem_take hc)
        have h4 : (l.take j).length ≤ 20 := by rw [List.length_take]; omega
        have h5 : (l.take j).length * (2 * 140737488355328) ≤ 20 * (2 * 140737488355328) := Nat.mul_le_mul_right _ h4
        have h6 := light_add h1 (by omega) ⟨by omega, by omega⟩ ⟨by omega, by omega⟩ hA
        rw [h6, List.take_add_one, hxj, Option.toList_some, costC_snoc]
        omega
      have Hmr := Lib.hid hmr
      have Hxj := Lib.hid hxj
      have Hf := Lib.hid hf
      have Hwz := Lib.hid hwz
      have Hmwz := Lib.hid hmwz
      have Hgwz := Lib.hid hgwz
      have Hmz := Lib.hid hmz
      have Hnx := Lib.hid hnx
      have Hsum := Lib.hid hsum
      clear hmr hxj hf hwz hmwz hgwz hmz hnx hsum hzwz c0 c1
      go_wp2_with (first | ((with_reducible refine wpList_load_lit 132 (.tmp 14) ?_); refine ⟨g, off + j * 7, rfl, x.cells, Hf.out, by kernel_rfl, by kernel_rfl, ?_⟩) | ((with_reducible refine wpList_store_lit 132 (.tmp 5) (.tmp 15) ?_); refine ⟨rfl, x.cells, rfl, rfl, by kernel_rfl, rfl, ?_⟩; rw [Hwz.out]) | fail)
      go_roundw
      case rel => exact ⟨j + 1, _, rfl, by go_num, hlt, fun h20 => Hnx.out h20 _ rfl, Hmz.out⟩
      case measure => simp [intOf]; omega
    · obtain rfl : j = l.length := by omega
      have hgr := hmr.heap Hgwa.out (fun h => h)
      have c1 : wr.cell? ⟨w.heap.size, 1, none⟩ = some (.slice a l.length cap) := cell_of hgr rfl
      have Hm := Lib.hid (Hmwa.out.trans hmr (fun _ _ h => h))
      rw [List.take_length] at hsum
      have Hsum := Lib.hid hsum
      clear hmr hgr hsum
      by_cases hn : n ≤ 2000
      · go_wp2
        go_ret
        refine ⟨_, rfl, fun hb => ?_, Hm.out⟩
        have h20 : l.length ≤ 20 := by
          have h2 : (l.length : Int) ≤ 20 := by simpa using hb
          omega
        have := Hsum.out h20
        exact ⟨h20, by omega⟩
      · have hn' : 2000 < n := by omega
        clear hn
        go_wp2
        go_ret
        exact ⟨false, rfl, (fun h => by cases h), Hm.out⟩
/-- What light rules are. -/
structure LightR (r : Ru) : Prop where
  who : r.who.size + r.name.size ≤ 200
  fil : LightF r.sc r.cs
def Light10FPost (w : World) (l : List Ru) (e : Ending) (w' : World) : Prop := ∃ b, e = .returned (.bool b) ∧ (b = true → l.length ≤ 80 ∧ ∀ r ∈ l, LightR r) ∧ Mod (fun _ => False) w w'
set_option maxHeartbeats 4000000 in
theorem light10f_at (w : World) (v : Value) (l : List Ru) (hv : RuSl w v l) (hll : l.length ≤ 9223372036854775807)
    (hs : ∀ r ∈ l, r.who.size ≤ 140737488355328 ∧ r.name.size ≤ 140737488355328 ∧ r.sc.size ≤ 140737488355328 ∧ ∀ c ∈ r.cs, c.name.size ≤ 140737488355328 ∧ c.v.text.size ≤ 140737488355328) :
    Calls Tryz.prog 10 #[v] w (Light10FPost w l) := by
  obtain ⟨a, cap, rfl, hcap⟩ : ∃ a c, v = .slice a l.length c ∧ l.length ≤ c := by obtain ⟨-, a, c, h, h2, -⟩ := hv.rd; exact ⟨a, c, h, h2⟩
  have hll' : (l.length : Int) ≤ 9223372036854775807 := by omega
  have hcap' : (l.length : Int) ≤ cap := by omega
  have Hv := Lib.hid hv
  have Hs := Lib.hid hs
  clear hv hs hll
  go_enter Tryz.func10, Tryz.ntmps10
  go_wp2_with fail
  go_loopw [7] (fun i wr => ∃ j : Nat, i = .int .i64 j ∧ j ≤ l.length ∧ (∀ x ∈ l.take j, LightR x) ∧ Mod (fun _ => False) w wr) (fun i _ => l.length - (intOf i).toNat)
  case atStart => exact ⟨0, rfl, Nat.zero_le _, fun x h => by simp at h, Mod.refl _ _⟩
  case round =>
    obtain ⟨j, rfl, hj, hall, hmr⟩ := hrel
    by_cases hlt : j < l.length
    · have hlt' : (j : Int) < l.length := by omega
      obtain ⟨x, hxj⟩ : ∃ x, l[j]? = some x := ⟨_, List.getElem?_eq_getElem hlt⟩
      have hxm := List.mem_of_getElem? hxj
      have hsx := Hs.out x hxm
      have hok := (Hv.out.mod hmr).ok x hxm
      obtain ⟨g, off, rfl, hf⟩ : ∃ g off, a = some ⟨g, off, none⟩ ∧ CellsAt wr g (off + j * 8) x.cells := rd_rule (Hv.out.mod hmr) hxj
      obtain ⟨wz, hwz⟩ : ∃ wz : World, wr.alloc (.cells x.cells.toArray 35) = wz := ⟨_, rfl⟩
      have hmwz : Mod (fun _ => False) wr wz := hwz ▸ (Mod.refl (fun _ => False) wr).alloc _
      have hgwz := heap_alloc_new wr (.cells x.cells.toArray 35)
      rw [hwz] at hgwz
      have hzwz : wz.heap.size = wr.heap.size + 1 := by rw [← hwz]; simp
      have hmz := hmr.trans hmwz (fun _ _ h => h)
      have b2 : wz.cell? ⟨wr.heap.size, 2, none⟩ = some (.string x.who) := cell_of hgwz rfl
      have b4 : wz.cell? ⟨wr.heap.size, 4, none⟩ = some (.string x.sc) := cell_of hgwz rfl
      have b5 : wz.cell? ⟨wr.heap.size, 5, none⟩ = some (.slice x.ca x.cs.length x.cc) := cell_of hgwz rfl
      have b6 : wz.cell? ⟨wr.heap.size, 6, none⟩ = some (.string x.name) := cell_of hgwz rfl
      have hl7 := light07f_at wz x.sc x.cv x.cs (hok.mod hmwz).rd (by have := hok.len; omega) hsx.2.2.1 hsx.2.2.2
      have hwr : wrap64 ((x.who.size : Int) + x.name.size) = (x.who.size : Int) + x.name.size := wrap64_of (by omega) (by omega)
      obtain ⟨A, hA⟩ : ∃ A : Int, wrap64 ((x.who.size : Int) + x.name.size) = A := ⟨_, rfl⟩
      have hnx : A ≤ 200 → LightF x.sc x.cs → ∀ y ∈ l.take (j + 1), LightR y := fun hq hF y hy => by
        rw [List.take_add_one, hxj] at hy
        rcases List.mem_append.1 hy with hy | hy
        · exact hall y hy
        · obtain rfl : y = x := by simpa using hy
          exact ⟨by omega, hF⟩
      have Hmr := Lib.hid hmr
      have Hxj := Lib.hid hxj
      have Hxm := Lib.hid hxm
      have Hsx := Lib.hid hsx
      have Hf := Lib.hid hf
      have Hwz := Lib.hid hwz
      have Hmwz := Lib.hid hmwz
      have Hgwz := Lib.hid hgwz
      have Hmz := Lib.hid hmz
      have Hl7 := Lib.hid hl7
      have Hnx := Lib.hid hnx
      have Hwr := Lib.hid hwr
      clear hmr hxj hxm hsx hf hwz hmwz hgwz hmz hl7 hnx hwr hzwz hok hall
      by_cases hq : A ≤ 200
      · go_wp2_with (first | ((with_reducible refine wpList_load_lit 35 (.tmp 9) ?_); refine ⟨g, off + j * 8, rfl, x.cells, Hf.out, by kernel_rfl, by kernel_rfl, ?_⟩) | ((with_reducible refine wpList_store_lit 35 (.tmp 4) (.tmp 10) ?_); refine ⟨rfl, x.cells, rfl, rfl, by kernel_rfl, rfl, ?_⟩; rw [Hwz.out]) | fail)
        refine Hl7.out.mono ?_
        rintro e w3 ⟨b, rfl, hbf, hm3⟩
        have Hm3 := Lib.hid (Hmz.out.trans hm3 (fun _ _ h => h))
        clear hm3 b2 b4 b5 b6
        cases b with
        | true =>
          have hny := Hnx.out hq (hbf rfl)
          have Hny := Lib.hid hny
          clear hny hbf
          go_wp2_with fail
          go_roundw
          case rel => exact ⟨j + 1, by go_num, hlt, Hny.out, Hm3.out⟩
          case measure => simp [intOf]; omega
        | false =>
          clear hbf
          go_wp2
          go_ret
          exact ⟨false, rfl, (fun h => by cases h), Hm3.out⟩
      · have hq' : 200 < A := by omega
        clear hq
        go_wp2_with (first | ((with_reducible refine wpList_load_lit 35 (.tmp 9) ?_); refine ⟨g, off + j * 8, rfl, x.cells, Hf.out, by kernel_rfl, by kernel_rfl, ?_⟩) | ((with_reducible refine wpList_store_lit 35 (.tmp 4) (.tmp 10) ?_); refine ⟨rfl, x.cells, rfl, rfl, by kernel_rfl, rfl, ?_⟩; rw [Hwz.out]) | fail)
        go_ret
        exact ⟨false, rfl, (fun h => by cases h), Hmz.out⟩
    · obtain rfl : j = l.length := by omega
      rw [List.take_length] at hall
      have Hm := Lib.hid hmr
      have Hall := Lib.hid hall
      clear hmr hall
      go_wp2
      go_ret
      refine ⟨_, rfl, fun h => ⟨?_, Hall.out⟩, Hm.out⟩
      have h2 : (l.length : Int) ≤ 80 := by simpa using h
      omega
end Go.Proofs.YtaenebdppkjhoaaGreatDoor
