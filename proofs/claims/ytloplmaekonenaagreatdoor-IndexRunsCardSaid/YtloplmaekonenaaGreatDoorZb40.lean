/-
  What is right is small; the names of an event are unlike.
  Few rules, and short ones.
  The plain law of removal: the rising numbers of what is left.
  gazettelaw13.IndexGoes.
  The plain law of a run: an index beside the map that it should be.
  A range over a map that the call made, of values as they are.
  The last step of every law: new blocks alone, true, the arguments as they were.
-/
import Derived.Test.YtloplmaekonenaaGreatDoorZb36
import Derived.Test.YtloplmaekonenaaGreatDoorZb39
import Derived.Test.YtloplmaekonenaaGreatDoorZb22
import Derived.Test.YtloplmaekonenaaGreatDoorZb28
import Derived.Maps.RangeWalk
import Derived.Sort.KeysCollected
import Derived.Test.YtloplmaekonenaaGreatDoorRows
import Derived.WalkKit
import Derived.ProofKit
import Derived.OpenShut
import Derived.Carry
namespace Go.Proofs.YtloplmaekonenaaGreatDoor
set_option maxRecDepth 20000
open Go.RowKit

theorem nm_size {s : ByteArray} (h : isName s = true) : s.size ≤ 12 := by
  unfold isName at h
  simp only [Bool.and_eq_true, decide_eq_true_eq] at h
  exact h.2.2
theorem ev_each {l : List Att} (h : evRight l = true) {a : Att} (ha : a ∈ l) : isName a.name = true ∧ a.v.right = true := by
  unfold evRight at h
  simp only [Bool.and_eq_true, List.all_eq_true, decide_eq_true_eq] at h
  obtain ⟨k, hk⟩ := List.mem_iff_getElem?.1 ha
  have := h.1 k (List.mem_range.2 (List.getElem?_eq_some_iff.1 hk).1)
  unfold okAt at this
  rw [hk] at this
  simp only [Bool.and_eq_true] at this
  exact ⟨this.1.1.1, this.1.1.2⟩
theorem cut_sz (s : ByteArray) : s.size ≤ (cutS s).1.size + 1 + (cutS s).2.1.size := by
  unfold cutS
  split
  · simp only [ByteArray.size_extract]
    omega
  · show s.size ≤ s.size + 1 + _
    omega
theorem scN_size : ∀ (f : Nat) (s : ByteArray) (k : Nat), scN f s = some k → s.size ≤ 13 * k
  | 0, s, k, h => by cases h
  | f + 1, s, k, h => by
    rw [scN_succ] at h
    have hc := cut_sz s
    by_cases h1 : isName (cutS s).1 = true
    · rw [if_pos h1] at h
      have hn := nm_size h1
      by_cases h2 : (cutS s).2.2 = true
      · rw [if_pos h2] at h
        cases h3 : scN f (cutS s).2.1 with
        | none => rw [h3] at h; cases h
        | some k' =>
          rw [h3] at h
          have h4 : k' + 1 = k := by simpa using h
          have := scN_size f _ k' h3
          omega
      · rw [if_neg h2] at h
        have h4 : (cutS s).1 = s := by
          unfold cutS at h2 ⊢
          split
          · rename_i h5; rw [if_pos h5] at h2; exact absurd rfl h2
          · rfl
        rw [h4] at hn
        have h4 : 1 = k := by simpa using h
        omega
    · rw [if_neg h1] at h; cases h
theorem scRight_size {s : ByteArray} (h : scRight s = true) : s.size ≤ 52 := by
  unfold scRight at h
  rw [Bool.or_eq_true] at h
  rcases h with h | h
  · rw [List.isEmpty_iff, ByteArray.toList_eq] at h
    have : s.size = s.data.toList.length := by rw [Array.length_toList]; rfl
    rw [this, h]
    exact Nat.zero_le _
  · unfold scM at h
    cases h1 : scN (s.size + 1) s with
    | none => rw [h1] at h; cases h
    | some k =>
      rw [h1] at h
      have := scN_size _ _ _ h1
      simp only [decide_eq_true_eq] at h
      omega
/-- What a right filter is like. -/
theorem fil_bounds {sc : ByteArray} {l : List Cnd} (h : filRight sc l = true) : sc.size ≤ 52 ∧ l.length ≤ 6 ∧ ∀ c ∈ l, c.name.size ≤ 12 ∧ (0 ≤ c.op ∧ c.op ≤ 7) ∧ (0 ≤ c.v.kind ∧ c.v.kind ≤ 3) ∧ c.v.text.size ≤ 40 := by
  unfold filRight at h
  simp only [Bool.and_eq_true, List.all_eq_true, decide_eq_true_eq] at h
  refine ⟨scRight_size h.2.1, h.2.2, fun c hc => ?_⟩
  have h1 := h.1 c hc
  unfold Cnd.rightB V.right at h1
  simp only [Bool.and_eq_true, decide_eq_true_eq] at h1
  exact ⟨nm_size h1.1, ⟨h1.2.1, h1.2.2.1⟩, ⟨h1.2.2.2.1, h1.2.2.2.2.1⟩, h1.2.2.2.2.2⟩
theorem rises_unlike {l : List Att} (h : rises l) : (l.map fun a => a.name.data.toList).Nodup := by
  rw [List.nodup_iff_pairwise_ne, List.pairwise_map, List.pairwise_iff_getElem]
  intro i j hi hj hij e
  have := h i j _ _ hij (List.getElem?_eq_getElem hi) (List.getElem?_eq_getElem hj)
  rw [e, less_irrefl] at this
  cases this
theorem ev7_unlike (l : List Att) : ((ev7L l).map fun a => a.name.data.toList).Nodup := by
  refine (rises_unlike (newL_rises l)).sublist (List.Sublist.map _ ?_)
  exact (List.take_sublist _ _).trans List.filter_sublist
theorem ev7_small {l : List Att} {a : Att} (h : a ∈ ev7L l) : a.name.size ≤ 12 ∧ a.v.text.size ≤ 40 := by
  have h1 := (List.mem_filter.1 (List.mem_of_mem_take h)).2
  have h2 := ev_each h1 (List.mem_singleton.2 rfl)
  refine ⟨nm_size h2.1, ?_⟩
  have h3 := h2.2
  unfold V.right at h3
  simp only [Bool.and_eq_true, decide_eq_true_eq] at h3
  exact h3.2.2
theorem ev7_len (l : List Att) : (ev7L l).length ≤ 8 := by
  unfold ev7L
  rw [List.length_take]
  omega
theorem ev7S_size {s : ByteArray} : (ev7S s).size ≤ 52 := by
  unfold ev7S
  split
  · rename_i h; exact scRight_size h
  · exact Nat.zero_le _
end Go.Proofs.YtloplmaekonenaaGreatDoor

namespace Go.Proofs.YtloplmaekonenaaGreatDoor
set_option maxRecDepth 20000
open Go.RowKit

/-- Some answer, yes or no. -/
def SomeBool (w : World) (e : Ending) (w' : World) : Prop := ∃ b, e = .returned (.bool b) ∧ Mod (fun _ => False) w w'
set_option maxHeartbeats 2000000 in
theorem light07_at (w : World) (sc : ByteArray) (cv : Value) (l : List Cnd) (hv : RdSl w 7 cv l.length (cnds l)) (hll : l.length ≤ 9223372036854775807) :
    Calls Tryz.prog 15 #[.agg #[.string sc, cv]] w (SomeBool w) := by
  obtain ⟨a, cap, rfl, hcap⟩ : ∃ a c, cv = .slice a l.length c ∧ l.length ≤ c := by obtain ⟨-, a, c, h, h2, -⟩ := hv; exact ⟨a, c, h, h2⟩
  have hll' : (l.length : Int) ≤ 9223372036854775807 := by omega
  have hcap' : (l.length : Int) ≤ cap := by omega
  obtain ⟨wa, hwa⟩ : ∃ wa : World, w.alloc (.cells #[.string sc, .slice a l.length cap] 29) = wa := ⟨_, rfl⟩
  have hmwa : Mod (fun _ => False) w wa := hwa ▸ (Mod.refl (fun _ => False) w).alloc _
  have hgwa := heap_alloc_new w (.cells #[.string sc, .slice a l.length cap] 29)
  rw [hwa] at hgwa
  have hzwa : wa.heap.size = w.heap.size + 1 := by rw [← hwa]; simp
  have hva := hv.mod hmwa (fun _ _ h => h)
  have c0 : wa.cell? ⟨w.heap.size, 0, none⟩ = some (.string sc) := cell_of hgwa rfl
  have c1 : wa.cell? ⟨w.heap.size, 1, none⟩ = some (.slice a l.length cap) := cell_of hgwa rfl
  have hqz : w.heap.size < wa.heap.size := by omega
  have Hv := Lib.hid hv
  have Hwa := Lib.hid hwa
  have Hmwa := Lib.hid hmwa
  have Hgwa := Lib.hid hgwa
  have Hva := Lib.hid hva
  clear hv hwa hmwa hgwa hva hzwa hll
  go_enter Tryz.func15, Tryz.ntmps15
  go_wp2_with (first | (rw [show w.alloc _ = wa from Hwa.out]) | fail)
  go_loopw [3, 12] (fun n i wr => ∃ (j : Nat) (x : Int), n = .int .i64 x ∧ i = .int .i64 j ∧ j ≤ l.length ∧ Mod (fun _ => False) wa wr) (fun _ i _ => l.length - (intOf i).toNat)
  case atStart => exact ⟨0, _, rfl, rfl, Nat.zero_le _, Mod.refl _ _⟩
  case round =>
    obtain ⟨j, n, rfl, rfl, hj, hmr⟩ := hrel
    by_cases hlt : j < l.length
    · have hlt' : (j : Int) < l.length := by omega
      obtain ⟨x, hxj⟩ : ∃ x, l[j]? = some x := ⟨_, List.getElem?_eq_getElem hlt⟩
      obtain ⟨g, off, rfl, hf⟩ : ∃ g off, a = some ⟨g, off, none⟩ ∧ CellsAt wr g (off + j * 7) x.cells := rd_cnd (Hva.out.mod hmr (fun _ _ h => h)) hxj
      obtain ⟨wz, hwz⟩ : ∃ wz : World, wr.alloc (.cells x.cells.toArray 81) = wz := ⟨_, rfl⟩
      have hmwz : Mod (fun _ => False) wr wz := hwz ▸ (Mod.refl (fun _ => False) wr).alloc _
      have hgwz := heap_alloc_new wr (.cells x.cells.toArray 81)
      rw [hwz] at hgwz
      have hzwz : wz.heap.size = wr.heap.size + 1 := by rw [← hwz]; simp
      have hmz := hmr.trans hmwz (fun _ _ h => h)
      have b0 : wz.cell? ⟨wr.heap.size, 0, none⟩ = some (.string x.name) := cell_of hgwz rfl
      have b5 : wz.cell? ⟨wr.heap.size, 5, none⟩ = some (.string x.v.text) := cell_of hgwz rfl
      have Hmr := Lib.hid hmr
      have Hxj := Lib.hid hxj
      have Hf := Lib.hid hf
      have Hwz := Lib.hid hwz
      have Hmwz := Lib.hid hmwz
      have Hgwz := Lib.hid hgwz
      have Hmz := Lib.hid hmz
      clear hmr hxj hf hwz hmwz hgwz hmz hzwz c0 c1
      go_wp2_with (first | ((with_reducible refine wpList_load_lit 81 (.tmp 14) ?_); refine ⟨g, off + j * 7, rfl, x.cells, Hf.out, by kernel_rfl, by kernel_rfl, ?_⟩) | ((with_reducible refine wpList_store_lit 81 (.tmp 5) (.tmp 15) ?_); refine ⟨rfl, x.cells, rfl, rfl, by kernel_rfl, rfl, ?_⟩; rw [Hwz.out]) | fail)
      go_roundw
      case rel => exact ⟨j + 1, _, rfl, by go_num, hlt, Hmz.out⟩
      case measure => simp [intOf]; omega
    · obtain rfl : j = l.length := by omega
      have hgr := hmr.heap Hgwa.out (fun h => h)
      have c1 : wr.cell? ⟨w.heap.size, 1, none⟩ = some (.slice a l.length cap) := cell_of hgr rfl
      have Hm := Lib.hid (Hmwa.out.trans hmr (fun _ _ h => h))
      clear hmr hgr
      by_cases hn : n ≤ 2000
      · go_wp2
        go_ret
        exact ⟨_, rfl, Hm.out⟩
      · have hn' : 2000 < n := by omega
        clear hn
        go_wp2
        go_ret
        exact ⟨_, rfl, Hm.out⟩

end Go.Proofs.YtloplmaekonenaaGreatDoor

namespace Go.Proofs.YtloplmaekonenaaGreatDoor
set_option maxRecDepth 20000
open Go.RowKit

theorem riseI_sorted (L : List Int) : (riseI L).Pairwise (fun a b => leI a b = true) := by
  unfold riseI
  refine List.pairwise_mergeSort (fun a b c h1 h2 => ?_) (fun a b => ?_) L
  · unfold leI at *
    simp only [decide_eq_true_eq] at *
    omega
  · unfold leI
    simp only [Bool.or_eq_true, decide_eq_true_eq]
    omega
end Go.Proofs.YtloplmaekonenaaGreatDoor

namespace Go.Proofs.YtloplmaekonenaaGreatDoor
set_option maxRecDepth 20000
open Go.RowKit

/-- A filter in memory. -/
structure Fr where
  sc : ByteArray
  a : Option Addr
  c : Nat
  cs : List Cnd
def Fr.cells (f : Fr) : List Value := [.string f.sc, .slice f.a f.cs.length f.c]
def Fr.fil (f : Fr) : Fil := (f.sc, f.cs)
/-- Filters in memory: what each is made of is in range. -/
structure FrsAt (w : World) (v : Value) (l : List Fr) : Prop where
  rd : RdSl w 2 v l.length (l.flatMap Fr.cells)
  cs : ∀ f ∈ l, RdSl w 7 (.slice f.a f.cs.length f.c) f.cs.length (cnds f.cs)
  sc : ∀ f ∈ l, f.sc.size ≤ 9223372036854775807 ∧ f.cs.length ≤ 9223372036854775807
  nm : ∀ f ∈ l, ∀ c ∈ f.cs, c.name.size ≤ 9223372036854775807 ∧ (-9223372036854775808 ≤ c.v.int ∧ c.v.int ≤ 9223372036854775807) ∧ c.v.num < 2 ^ 64
theorem FrsAt.mod {w w' : World} {v : Value} {l : List Fr} (h : FrsAt w v l) (hm : Mod (fun _ => False) w w') : FrsAt w' v l := ⟨h.rd.mod hm (fun _ _ h => h), fun f hf => (h.cs f hf).mod hm (fun _ _ h => h), h.sc, h.nm⟩

end Go.Proofs.YtloplmaekonenaaGreatDoor

namespace Go.Proofs.YtloplmaekonenaaGreatDoor
set_option maxRecDepth 20000
open Go.RowKit

/-- What a list has under a number. -/
def asF {α : Type} (M : List (Int × α)) (id : Int) : Option α := (M.find? fun p => p.1 == id).map Prod.snd
/-- Without a number. -/
def asD {α : Type} (M : List (Int × α)) (id : Int) : List (Int × α) := M.filter fun p => !(p.1 == id)
theorem asF_some {α : Type} {M : List (Int × α)} {id : Int} {q : α} (h : asF M id = some q) : (id, q) ∈ M := by
  unfold asF at h
  obtain ⟨p, h1, rfl⟩ := Option.map_eq_some_iff.1 h
  have h2 := List.find?_some h1
  simp only [beq_iff_eq] at h2
  subst h2
  exact List.mem_of_find?_eq_some h1
theorem asF_none {α : Type} {M : List (Int × α)} {id : Int} (h : asF M id = none) : id ∉ M.map Prod.fst := fun hm => by
  obtain ⟨p, hp, rfl⟩ := List.mem_map.1 hm
  unfold asF at h
  rw [Option.map_eq_none_iff, List.find?_eq_none] at h
  simpa using h p hp
theorem asF_iff {α : Type} {M : List (Int × α)} (hn : (M.map Prod.fst).Nodup) {id : Int} {q : α} : asF M id = some q ↔ (id, q) ∈ M := by
  refine ⟨asF_some, fun h => ?_⟩
  induction M with
  | nil => cases h
  | cons p M ih =>
    rw [List.map_cons, List.nodup_cons] at hn
    unfold asF
    rw [List.find?_cons]
    rcases List.mem_cons.1 h with h | h
    · subst h; simp
    · have hne : (p.1 == id) = false := by
        rw [beq_eq_false_iff_ne]
        intro e
        exact hn.1 (e ▸ List.mem_map_of_mem (f := Prod.fst) h)
      rw [hne]
      exact ih hn.2 h
theorem asF_new {α : Type} {M : List (Int × α)} {id : Int} {q : α} (h : asF M id = none) (x : Int) : asF (M ++ [(id, q)]) x = if x = id then some q else asF M x := by
  unfold asF at h ⊢
  rw [List.find?_append]
  by_cases e : x = id
  · subst e
    rw [Option.map_eq_none_iff] at h
    rw [h, if_pos rfl]
    simp
  · rw [if_neg e]
    have : (id == x) = false := by rw [beq_eq_false_iff_ne]; exact fun h => e h.symm
    cases M.find? fun p => p.1 == x <;> simp [this]
theorem asF_del {α : Type} (M : List (Int × α)) (id x : Int) : asF (asD M id) x = if x = id then none else asF M x := by
  unfold asF asD
  rw [List.find?_filter]
  by_cases e : x = id
  · subst e
    rw [if_pos rfl, Option.map_eq_none_iff, List.find?_eq_none]
    intro p _
    cases (p.1 == x) <;> simp
  · rw [if_neg e]
    congr 2
    funext p
    by_cases h : p.1 = x
    · have : (p.1 == id) = false := by rw [beq_eq_false_iff_ne]; exact fun h2 => e (h.symm.trans h2)
      rw [this]
      cases (p.1 == x) <;> rfl
    · have : (p.1 == x) = false := by rw [beq_eq_false_iff_ne]; exact h
      rw [this]
      cases (!(p.1 == id)) <;> rfl
theorem asD_fst {α : Type} (M : List (Int × α)) (id : Int) : (asD M id).map Prod.fst = (M.map Prod.fst).filter fun x => !(x == id) := by
  unfold asD
  rw [List.filter_map]
  rfl
theorem asD_nodup {α : Type} {M : List (Int × α)} (h : (M.map Prod.fst).Nodup) (id : Int) : ((asD M id).map Prod.fst).Nodup := by
  rw [asD_fst]
  exact h.filter _
theorem as_nodup {α : Type} {M : List (Int × α)} (h : (M.map Prod.fst).Nodup) {id : Int} {q : α} (hq : asF M id = none) : ((M ++ [(id, q)]).map Prod.fst).Nodup := by
  rw [List.map_append, List.nodup_append]
  refine ⟨h, by simp, fun a ha b hb e => ?_⟩
  obtain rfl : b = id := by simpa using hb
  subst e
  exact asF_none hq ha
theorem asD_len {α : Type} {M : List (Int × α)} (h : (M.map Prod.fst).Nodup) {id : Int} (hq : asF M id ≠ none) : (asD M id).length + 1 = M.length := by
  have h1 : ∀ (l : List Int), l.Nodup → id ∈ l → (l.filter fun x => !(x == id)).length + 1 = l.length := fun l => by
    induction l with
    | nil => intro _ h; cases h
    | cons a l ih =>
      intro hn hm
      rw [List.nodup_cons] at hn
      rw [List.filter_cons]
      by_cases e : a = id
      · subst e
        have h2 : l.filter (fun x => !(x == a)) = l := List.filter_eq_self.2 fun x hx => by
          have : x ≠ a := fun e => hn.1 (e ▸ hx)
          simp [this]
        simp [h2]
      · have h3 : id ∈ l := (List.mem_cons.1 hm).resolve_left fun h => e h.symm
        have : (!(a == id)) = true := by simp [e]
        rw [if_pos this, List.length_cons, List.length_cons, ih hn.2 h3]
  have h2 : id ∈ M.map Prod.fst := by
    cases hf : asF M id with
    | none => exact absurd hf hq
    | some q => exact List.mem_map_of_mem (f := Prod.fst) (asF_some hf)
  have h3 := h1 _ h h2
  rw [← asD_fst, List.length_map, List.length_map] at h3
  exact h3
/-- One more has been counted. -/
theorem cnt_step {α : Type} {M : List (Int × α)} (hn : (M.map Prod.fst).Nodup) {x : Int} {f : α} (h : (x, f) ∈ M) (q : Int × α → Bool) {left left' : Int → Bool} (hx : left x = true) (hl : ∀ y, left' y = (left y && !(y == x))) :
    (M.filter fun p => q p && !left' p.1).length = (M.filter fun p => q p && !left p.1).length + if q (x, f) then 1 else 0 := by
  induction M with
  | nil => cases h
  | cons p M ih =>
    rw [List.map_cons, List.nodup_cons] at hn
    rw [List.filter_cons, List.filter_cons]
    rcases List.mem_cons.1 h with h | h
    · subst h
      have h1 : M.filter (fun p => q p && !left' p.1) = M.filter (fun p => q p && !left p.1) := by
        refine List.filter_congr fun p hp => ?_
        have : (p.1 == x) = false := by
          rw [beq_eq_false_iff_ne]
          intro e
          have h2 := List.mem_map_of_mem (f := Prod.fst) hp
          rw [e] at h2
          exact hn.1 h2
        rw [hl, this, Bool.not_false, Bool.and_true]
      rw [h1, hl, hx]
      cases q (x, f) <;> simp
    · have h2 := ih hn.2 h
      have : (p.1 == x) = false := by
        rw [beq_eq_false_iff_ne]
        intro e
        have h2 := List.mem_map_of_mem (f := Prod.fst) h
        rw [← e] at h2
        exact hn.1 h2
      have h3 : left' p.1 = left p.1 := by rw [hl, this, Bool.not_false, Bool.and_true]
      rw [h3]
      cases (q p && !left p.1) with
      | false => exact h2
      | true =>
        rw [if_pos rfl, if_pos rfl, List.length_cons, List.length_cons, h2]
        omega
/-- The index of what the map has. -/
def runI (M : List (Int × Fr)) : List (Int × Fil) := M.map fun p => (p.1, (p.2.sc, normC p.2.cs))
theorem runI_fst (M : List (Int × Fr)) : (runI M).map Prod.fst = M.map Prod.fst := by
  unfold runI
  rw [List.map_map]
  rfl
theorem runI_F (M : List (Int × Fr)) (id : Int) : idxF (runI M) id = (asF M id).map fun x => (x.sc, normC x.cs) := by
  unfold idxF runI asF
  rw [List.find?_map, Option.map_map, Option.map_map]
  rfl
theorem runI_put (M : List (Int × Fr)) (id : Int) (x : Fr) : runI (M ++ [(id, x)]) = runI M ++ [(id, (x.sc, normC x.cs))] := by
  unfold runI
  rw [List.map_append]
  rfl
theorem runI_del (M : List (Int × Fr)) (id : Int) : idxD (runI M) id = runI (asD M id) := by
  unfold idxD runI asD
  rw [List.filter_map]
  rfl
/-- Does a filter have the event, as the document says? -/
def frM (es : ByteArray) (L : List Att) (p : Int × Fr) : Bool := rMatF p.2.fil es L
theorem run_matB {M : List (Int × Fr)} (hn : (M.map Prod.fst).Nodup) (hw : ∀ p ∈ M, ∀ c ∈ p.2.cs, c.whole) {L : List Att} (hL : (L.map fun a => a.name.data.toList).Nodup) (es : ByteArray) {p : Int × Fr} (hp : p ∈ M) : matB (runI M) es L p.1 = frM es L p := by
  have h1 : asF M p.1 = some p.2 := (asF_iff hn).2 hp
  have h2 : idxF (runI M) p.1 = some (p.2.sc, normC p.2.cs) := by rw [runI_F, h1]; rfl
  rw [matB_some h2 hL, normC_mat (hw p hp)]
  rfl
theorem run_count {M : List (Int × Fr)} (hn : (M.map Prod.fst).Nodup) (hw : ∀ p ∈ M, ∀ c ∈ p.2.cs, c.whole) {L : List Att} (hL : (L.map fun a => a.name.data.toList).Nodup) (es : ByteArray) : (matL (runI M) es L).length = (M.filter (frM es L)).length := by
  unfold matL riseI
  rw [runI_fst, ((List.mergeSort_perm (M.map Prod.fst) leI).filter (matB (runI M) es L)).length_eq, List.filter_map, List.length_map]
  congr 1
  exact List.filter_congr fun p hp => run_matB hn hw hL es hp
theorem run_mem {M : List (Int × Fr)} (hn : (M.map Prod.fst).Nodup) (hw : ∀ p ∈ M, ∀ c ∈ p.2.cs, c.whole) {L : List Att} (hL : (L.map fun a => a.name.data.toList).Nodup) {es : ByteArray} {id : Int} (h : id ∈ matL (runI M) es L) : ∃ f, asF M id = some f ∧ rMatF f.fil es L = true := by
  unfold matL at h
  obtain ⟨h1, h2⟩ := List.mem_filter.1 h
  rw [riseI_mem, runI_fst] at h1
  obtain ⟨p, hp, rfl⟩ := List.mem_map.1 h1
  rw [run_matB hn hw hL es hp] at h2
  exact ⟨p.2, (asF_iff hn).2 hp, h2⟩
theorem run_lt {I : List (Int × Fil)} (hn : (I.map Prod.fst).Nodup) (es : ByteArray) (L : List Att) : (matL I es L).Pairwise (· < ·) := by
  unfold matL
  refine List.Pairwise.filter _ ?_
  refine ((riseI_sorted (I.map Prod.fst)).and ((List.mergeSort_perm (I.map Prod.fst) leI).nodup_iff.2 hn)).imp fun {a b} h => ?_
  have h1 := h.1
  unfold leI at h1
  simp only [decide_eq_true_eq] at h1
  have h2 : a ≠ b := h.2
  omega
end Go.Proofs.YtloplmaekonenaaGreatDoor

namespace Go.Proofs.YtloplmaekonenaaGreatDoor
set_option maxRecDepth 20000
open Go.RowKit

/-- Block r ranges over the map b, which reads as f; 'left': what is still to come; cnt: how many. -/
def RngR (w : World) (kt : TypeId) (b r : Nat) (f : Lit → Option Value) (left : Lit → Bool) (cnt : Nat) : Prop :=
  ∃ (D : DataW Value) (n : Nat), w.ranges Tryz.prog kt rawR b r n D left cnt ∧ (∀ kl z, D.atKey kl (.held z) = .held ((f kl).getD z)) ∧ ∀ kl, Maps.has D kl = (f kl).isSome
theorem RngR.mod {w w' : World} {kt : TypeId} {b r : Nat} {f : Lit → Option Value} {left : Lit → Bool} {cnt : Nat} {F : Nat → Prop} (h : RngR w kt b r f left cnt) (hm : Mod F w w') (h1 : ¬ F b) (h2 : ¬ F r) : RngR w' kt b r f left cnt := by
  obtain ⟨D, n, ⟨es, clock, since, seen, c0, hb, F', hs, hD, hr, rest⟩, h3⟩ := h
  exact ⟨D, n, ⟨es, clock, since, seen, c0, hm.heap hb h1, F', hs, hD, hm.heap hr h2, rest⟩, h3⟩
theorem RngR.left_eq {w : World} {kt : TypeId} {b r : Nat} {f : Lit → Option Value} {left : Lit → Bool} {cnt : Nat} (h : RngR w kt b r f left cnt) : w.rangeLeft b r = cnt := by
  obtain ⟨D, n, h1, -⟩ := h
  exact h1.left_eq
theorem RngR.cong {w : World} {kt : TypeId} {b r : Nat} {f : Lit → Option Value} {left left' : Lit → Bool} {cnt : Nat} (h : RngR w kt b r f left cnt) (e : left = left') : RngR w kt b r f left' cnt := e ▸ h
theorem grown_mod0 {w w' : World} (h : w.grownBy w' none) : Mod (fun _ => False) w w' := ⟨h.os, h.tape, h.output, h.size, fun k hk _ => h.block k hk (fun e => by cases e)⟩
theorem at_some {f : Lit → Option Value} {kl : Lit} {c : Value} (h : ∀ z, (f kl).getD z = c) : f kl = some c := by
  cases hf : f kl with
  | some v => rw [hf] at h; exact congrArg some (h c)
  | none =>
    rw [hf] at h
    have h1 := h (.bool true)
    have h2 := h (.bool false)
    rw [← h2] at h1
    cases h1

theorem wpList_range_R {w : World} {ops : Array Oper} {rest : List Oper} {o : Oper} {a : Act} {Q : Exit → Act → World → Prop} (hg : o.guard = none) (m : Operand) (t : TypeId) (hop : o.op = .range t m) (kt e : TypeId) (K : Maps.Keyed Tryz.prog kt)
    (ht : Tryz.prog.underlying t = some (.map kt e)) (b n : Nat) (f : Lit → Option Value) (hm : a.eval m = .map (some b)) (h : MapR w kt b n f)
    (hK : ∀ w', RngR w' kt b w.heap.size f (fun kl => (f kl).isSome) n → Mod (fun _ => False) w w' → w'.heap.size = w.heap.size + 1 → wpList Tryz.prog ops Q rest (a.put o.dst (.pointer (some ⟨w.heap.size, 0, none⟩))) w') : wpList Tryz.prog ops Q (o :: rest) a w := by
  obtain ⟨D, h1, h2, h3, h4⟩ := h
  refine wpList_range_own w hg m t hop kt e K ht rawR b n D hm h1 fun w' r1 r2 r3 => hK w' ?_ (grown_mod0 r2) r3
  rw [h2] at r1
  refine ⟨D, n, ?_, h3, h4⟩
  have : (fun kl => (f kl).isSome) = Maps.has D := by funext kl; exact (h4 kl).symm
  rw [this]
  exact r1

theorem wpList_next_R {w : World} {ops : Array Oper} {rest : List Oper} {o : Oper} {a : Act} {Q : Exit → Act → World → Prop} {α : Type} (hg : o.guard = none) (it : Operand) (hop : o.op = .next it false) (kt : TypeId) (K : Maps.Keyed Tryz.prog kt)
    (mkK : α → Value) (mkL : α → Lit) (invK : ∀ key kl, keyOf Tryz.prog kt key = some kl → ∃ x, key = mkK x) (inL : ∀ x kl, keyOf Tryz.prog kt (mkK x) = some kl → kl = mkL x) (b r : Nat) (f : Lit → Option Value) (left : Lit → Bool) (cnt : Nat)
    (hit : a.eval it = .pointer (some ⟨r, 0, none⟩)) (h : RngR w kt b r f left cnt)
    (hDone : (∀ kl, left kl = false) → wpList Tryz.prog ops Q rest (a.put o.dst (.tuple #[.bool false])) w)
    (hMore : ∀ (x : α) (c : Value) (w' : World) (cnt' : Nat), keyOf Tryz.prog kt (mkK x) = some (mkL x) → left (mkL x) = true → f (mkL x) = some c → RngR w' kt b r f (fun z => left z && !z.sameKey (mkL x)) cnt' → cnt' < cnt → Mod (fun k => k = r) w w' → w'.heap.size = w.heap.size →
      (Instr.entry (.pointer (some ⟨r, 0, none⟩))).run Tryz.prog w' = .ok (.tuple #[mkK x, c]) w' → wpList Tryz.prog ops Q rest (a.put o.dst (.tuple #[.bool true, mkK x, c])) w') : wpList Tryz.prog ops Q (o :: rest) a w := by
  obtain ⟨D, n, h1, h2, h3⟩ := h
  refine wpList_next_ranges w hg it hop kt K rawR mkK (fun c : Value => c) invK (fun v _ _ => ⟨v, rfl⟩) b r n D left cnt hit h1 (fun _ h => hDone h) ?_
  intro x c kl y w' cnt' hkey hlk hv hat hrg hlt hgr hsz hen
  have hkl := inL x kl hkey
  subst hkl
  have hy : y = (.held c, []) := by
    have : some ((.held c : DataW Value), ([] : List MemPlace)) = some y := hv
    exact (Option.some.inj this).symm
  subst hy
  refine hMore x c w' cnt' hkey hlk (at_some fun z => ?_) ⟨D, n, hrg, h2, h3⟩ hlt (grown_mod hgr) hsz hen
  have h5 := hat (.held z)
  rw [h2] at h5
  exact DataW.held.inj h5
/-- Keys that are numbers. -/
theorem inv_i (kt : TypeId) (hk : Tryz.prog.underlying kt = some (.int .i64)) : ∀ key kl, keyOf Tryz.prog kt key = some kl → ∃ x, key = Value.int .i64 x := fun key kl h => by
  obtain ⟨x, hx, -⟩ := Maps.keyOf_int_inv hk h
  exact ⟨x, hx⟩
theorem in_i (kt : TypeId) (hk : Tryz.prog.underlying kt = some (.int .i64)) : ∀ (x : Int) kl, keyOf Tryz.prog kt (.int .i64 x) = some kl → kl = .int .i64 x := fun x kl h => by
  obtain ⟨y, hx, hl, -⟩ := Maps.keyOf_int_inv hk h
  cases hx
  exact hl
theorem same_i (x y : Int) : (Lit.int .i64 y).sameKey (.int .i64 x) = (y == x) := by
  unfold Lit.sameKey
  by_cases h : y = x
  · simp [h]
  · simp [h]
end Go.Proofs.YtloplmaekonenaaGreatDoor

namespace Go.Proofs.YtloplmaekonenaaGreatDoor
set_option maxRecDepth 20000
open Go.ChangeShapes Go.WideShapes Go.ChangeAt Go.RowKit

theorem own_knob : ownKnob Tryz.prog.godebug = none := by kernel_rfl

theorem laidOut : laidOutB Tryz.prog = true := by kernel_rfl

/-- All arguments read as they did, where nothing that was there has been written. -/
theorem trodAll_same {H : Type} {enc : TypeId × Value → H} {P : Program} (hl : laidOutB P = true) {W W' : World} (hb : Below W.heap.size W W') : ∀ {ts : List TypeId} {vs : List Value} {ds : List (DataW H)} {ps : List MemPlace}
    (_ : ts.all (fun t => P.readableRec t && decide (t < P.types.size)) = true) (_ : DataW.TrodAll enc P W 0 (fun _ => true) true ts vs ds ps) (_ : ∀ x ∈ ps, x.block < W.heap.size), DataW.TrodAll enc P W' 0 (fun b => decide (b < W.heap.size)) true ts vs ds ps
  | [], vs, ds, ps, _, h, _ => by
    obtain ⟨rfl, rfl, rfl⟩ := trodAll_nil h
    exact trodAll_mk0
  | t :: ts, vs, ds, ps, hr, h, hlt => by
    obtain ⟨v, vs', d, ds', p, q, rfl, rfl, rfl, h1, h2⟩ := trodAll_cons h
    simp only [List.all_cons, Bool.and_eq_true, decide_eq_true_eq] at hr
    exact trodAll_cons_mk (Below.trod hl hr.1.1 hr.1.2 h1 hb (fun x hx => hlt x (List.mem_append_left _ hx))) (trodAll_same hl hb hr.2 h2 (fun x hx => hlt x (List.mem_append_right _ hx)))

/-- The post of a law that returns true, where nothing that was there has been written. -/
theorem post_same {H : Type} {enc : TypeId × Value → H} {f : Func} {s : ChangeSpec} {apart fresh handsOn : Bool} {W W' : World} {args : Array Value} {v : Value} {ds gs : List (DataW H)} {before : List MemPlace}
    (hW : DataW.Whole enc Tryz.prog f.params.toList s.vars apart W args.toList ds gs before)
    (hA : DataW.TrodAll enc Tryz.prog W 0 (fun _ => true) true f.params.toList args.toList ds before)
    (hr : f.params.toList.all (fun t => Tryz.prog.readableRec t && decide (t < Tryz.prog.types.size)) = true) (hds : (s.fn H (ds ++ gs)).args = ds)
    (hres : ∀ (b : Nat) (sp : Nat → Bool) (hd : Bool), DataW.TrodAll enc Tryz.prog W' b sp hd f.resultTypes.toList (v.resultList f.resultTypes.size) (s.fn H (ds ++ gs)).results [])
    (hvars : ∀ sp : Nat → Bool, DataW.TrodVars enc Tryz.prog W' sp s.vars (s.fn H (ds ++ gs)).vars [])
    (hb : Below W.heap.size W W') : s.post enc Tryz.prog f apart fresh handsOn false W args v W' := by
  have hold : ∀ p ∈ before, p.block < W.heap.size := fun p hp => by simpa using hW.lt p hp
  have hargs := trodAll_same laidOut hb hr hA hold
  refine ⟨ds, gs, before, [], before, [], hW, hres _ _ _, ?_, hvars _, World.keptBut_mono (fun p hp => ⟨hp, by simpa using hp⟩) (hb.frame (· ∈ before)), fun h => by cases h⟩
  rw [hds]
  exact hargs
end Go.Proofs.YtloplmaekonenaaGreatDoor
