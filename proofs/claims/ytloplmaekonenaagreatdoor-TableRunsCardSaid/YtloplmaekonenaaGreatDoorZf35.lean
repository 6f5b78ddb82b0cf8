/-
  What is right is small; the names of an event are unlike.
  Few rules, and short ones.
  gazettelaw13.IndexGoes.
  Package table: All.
-/
import Derived.Test.YtloplmaekonenaaGreatDoorZf31
import Derived.Test.YtloplmaekonenaaGreatDoorZf34
import Derived.Test.YtloplmaekonenaaGreatDoorZf18
import Derived.Test.YtloplmaekonenaaGreatDoorZf28
import Derived.Test.YtloplmaekonenaaGreatDoorZf21
namespace Go.Proofs.YtloplmaekonenaaGreatDoor
set_option maxRecDepth 20000
open Go.RowKit

theorem nm_size {s : ByteArray} (h : isName s = true) : s.size ≤ 12 := by
  unfold isName at h
  simp only [Bool.and_eq_true, decide_eq_true_eq] at h
  exact h.2.2
theorem ev_each {l : List Att} (h : evRight l = true) {a : Att} (ha : a ∈ l) : isName a.name = true ∧ a.v.right = true := by
  unfold evRight at h
  simp only [Bool.and_eq_true, List.all_eq_true, decide_eq_true_eq] at h
  obtain ⟨k, hk⟩ := List.mem_iff_getElem?.1 ha
  have := h.1 k (List.mem_range.2 (List.getElem?_eq_some_iff.1 hk).1)
  unfold okAt at this
  rw [hk] at this
  simp only [Bool.and_eq_true] at this
  exact ⟨this.1.1.1, this.1.1.2⟩
theorem cut_sz (s : ByteArray) : s.size ≤ (cutS s).1.size + 1 + (cutS s).2.1.size := by
  unfold cutS
  split
  · simp only [ByteArray.size_extract]
    omega
  · show s.size ≤ s.size + 1 + _
    omega
theorem scN_size : ∀ (f : Nat) (s : ByteArray) (k : Nat), scN f s = some k → s.size ≤ 13 * k
  | 0, s, k, h => by cases h
  | f + 1, s, k, h => by
    rw [scN_succ] at h
    have hc := cut_sz s
    by_cases h1 : isName (cutS s).1 = true
    · rw [if_pos h1] at h
      have hn := nm_size h1
      by_cases h2 : (cutS s).2.2 = true
      · rw [if_pos h2] at h
        cases h3 : scN f (cutS s).2.1 with
        | none => rw [h3] at h; cases h
        | some k' =>
          rw [h3] at h
          have h4 : k' + 1 = k := by simpa using h
          have := scN_size f _ k' h3
          omega
      · rw [if_neg h2] at h
        have h4 : (cutS s).1 = s := by
          unfold cutS at h2 ⊢
          split
          · rename_i h5; rw [if_pos h5] at h2; exact absurd rfl h2
          · rfl
        rw [h4] at hn
        have h4 : 1 = k := by simpa using h
        omega
    · rw [if_neg h1] at h; cases h
theorem scRight_size {s : ByteArray} (h : scRight s = true) : s.size ≤ 52 := by
  unfold scRight at h
  rw [Bool.or_eq_true] at h
  rcases h with h | h
  · rw [List.isEmpty_iff, ByteArray.toList_eq] at h
    have : s.size = s.data.toList.length := by rw [Array.length_toList]; rfl
    rw [this, h]
    exact Nat.zero_le _
  · unfold scM at h
    cases h1 : scN (s.size + 1) s with
    | none => rw [h1] at h; cases h
    | some k =>
      rw [h1] at h
      have := scN_size _ _ _ h1
      simp only [decide_eq_true_eq] at h
      omega
/-- What a right filter is like. -/
theorem fil_bounds {sc : ByteArray} {l : List Cnd} (h : filRight sc l = true) : sc.size ≤ 52 ∧ l.length ≤ 6 ∧ ∀ c ∈ l, c.name.size ≤ 12 ∧ (0 ≤ c.op ∧ c.op ≤ 7) ∧ (0 ≤ c.v.kind ∧ c.v.kind ≤ 3) ∧ c.v.text.size ≤ 40 := by
  unfold filRight at h
  simp only [Bool.and_eq_true, List.all_eq_true, decide_eq_true_eq] at h
  refine ⟨scRight_size h.2.1, h.2.2, fun c hc => ?_⟩
  have h1 := h.1 c hc
  unfold Cnd.rightB V.right at h1
  simp only [Bool.and_eq_true, decide_eq_true_eq] at h1
  exact ⟨nm_size h1.1, ⟨h1.2.1, h1.2.2.1⟩, ⟨h1.2.2.2.1, h1.2.2.2.2.1⟩, h1.2.2.2.2.2⟩
theorem ev7_small {l : List Att} {a : Att} (h : a ∈ ev7L l) : a.name.size ≤ 12 ∧ a.v.text.size ≤ 40 := by
  have h1 := (List.mem_filter.1 (List.mem_of_mem_take h)).2
  have h2 := ev_each h1 (List.mem_singleton.2 rfl)
  refine ⟨nm_size h2.1, ?_⟩
  have h3 := h2.2
  unfold V.right at h3
  simp only [Bool.and_eq_true, decide_eq_true_eq] at h3
  exact h3.2.2
theorem ev7_len (l : List Att) : (ev7L l).length ≤ 8 := by
  unfold ev7L
  rw [List.length_take]
  omega
theorem ev7S_size {s : ByteArray} : (ev7S s).size ≤ 52 := by
  unfold ev7S
  split
  · rename_i h; exact scRight_size h
  · exact Nat.zero_le _
end Go.Proofs.YtloplmaekonenaaGreatDoor

namespace Go.Proofs.YtloplmaekonenaaGreatDoor
set_option maxRecDepth 20000
open Go.RowKit

/-- Some answer, yes or no. -/
def SomeBool (w : World) (e : Ending) (w' : World) : Prop := ∃ b, e = .returned (.bool b) ∧ Mod (fun _ => False) w w'
set_option maxHeartbeats 2000000 in
theorem light07_at (w : World) (sc : ByteArray) (cv : Value) (l : List Cnd) (hv : RdSl w 7 cv l.length (cnds l)) (hll : l.length ≤ 9223372036854775807) :
    Calls Tryz.prog 15 #[.agg #[.string sc, cv]] w (SomeBool w) := by
  obtain ⟨a, cap, rfl, hcap⟩ : ∃ a c, cv = .slice a l.length c ∧ l.length ≤ c := by obtain ⟨-, a, c, h, h2, -⟩ := hv; exact ⟨a, c, h, h2⟩
  have hll' : (l.length : Int) ≤ 9223372036854775807 := by omega
  have hcap' : (l.length : Int) ≤ cap := by omega
  obtain ⟨wa, hwa⟩ : ∃ wa : World, w.alloc (.cells #[.string sc, .slice a l.length cap] 29) = wa := ⟨_, rfl⟩
  have hmwa : Mod (fun _ => False) w wa := hwa ▸ (Mod.refl (fun _ => False) w).alloc _
  have hgwa := heap_alloc_new w (.cells #[.string sc, .slice a l.length cap] 29)
  rw [hwa] at hgwa
  have hzwa : wa.heap.size = w.heap.size + 1 := by rw [← hwa]; simp
  have hva := hv.mod hmwa (fun _ _ h => h)
  have c0 : wa.cell? ⟨w.heap.size, 0, none⟩ = some (.string sc) := cell_of hgwa rfl
  have c1 : wa.cell? ⟨w.heap.size, 1, none⟩ = some (.slice a l.length cap) := cell_of hgwa rfl
  have hqz : w.heap.size < wa.heap.size := by omega
  have Hv := Lib.hid hv
  have Hwa := Lib.hid hwa
  have Hmwa := Lib.hid hmwa
  have Hgwa := Lib.hid hgwa
  have Hva := Lib.hid hva
  clear hv hwa hmwa hgwa hva hzwa hll
  go_enter Tryz.func15, Tryz.ntmps15
  go_wp2_with (first | (rw [show w.alloc _ = wa from Hwa.out]) | fail)
  go_loopw [3, 12] (fun n i wr => ∃ (j : Nat) (x : Int), n = .int .i64 x ∧ i = .int .i64 j ∧ j ≤ l.length ∧ Mod (fun _ => False) wa wr) (fun _ i _ => l.length - (intOf i).toNat)
  case atStart => exact ⟨0, _, rfl, rfl, Nat.zero_le _, Mod.refl _ _⟩
  case round =>
    obtain ⟨j, n, rfl, rfl, hj, hmr⟩ := hrel
    by_cases hlt : j < l.length
    · have hlt' : (j : Int) < l.length := by omega
      obtain ⟨x, hxj⟩ : ∃ x, l[j]? = some x := ⟨_, List.getElem?_eq_getElem hlt⟩
      obtain ⟨g, off, rfl, hf⟩ : ∃ g off, a = some ⟨g, off, none⟩ ∧ CellsAt wr g (off + j * 7) x.cells := rd_cnd (Hva.out.mod hmr (fun _ _ h => h)) hxj
      obtain ⟨wz, hwz⟩ : ∃ wz : World, wr.alloc (.cells x.cells.toArray 81) = wz := ⟨_, rfl⟩
      have hmwz : Mod (fun _ => False) wr wz := hwz ▸ (Mod.refl (fun _ => False) wr).alloc _
      have hgwz := heap_alloc_new wr (.cells x.cells.toArray 81)
      rw [hwz] at hgwz
      have hzwz : wz.heap.size = wr.heap.size + 1 := by rw [← hwz]; simp
      have hmz := hmr.trans hmwz (fun _ _ h => h)
      have b0 : wz.cell? ⟨wr.heap.size, 0, none⟩ = some (.string x.name) := cell_of hgwz rfl
      have b5 : wz.cell? ⟨wr.heap.size, 5, none⟩ = some (.string x.v.text) := cell_of hgwz rfl
      have Hmr := Lib.hid hmr
      have Hxj := Lib.hid hxj
      have Hf := Lib.hid hf
      have Hwz := Lib.hid hwz
      have Hmwz := Lib.hid hmwz
      have Hgwz := Lib.hid hgwz
      have Hmz := Lib.hid hmz
      clear hmr hxj hf hwz hmwz hgwz hmz hzwz c0 c1
      go_wp2_with (first | ((with_reducible refine wpList_load_lit 81 (.tmp 14) ?_); refine ⟨g, off + j * 7, rfl, x.cells, Hf.out, by kernel_rfl, by kernel_rfl, ?_⟩) | ((with_reducible refine wpList_store_lit 81 (.tmp 5) (.tmp 15) ?_); refine ⟨rfl, x.cells, rfl, rfl, by kernel_rfl, rfl, ?_⟩; rw [Hwz.out]) | fail)
      go_roundw
      case rel => exact ⟨j + 1, _, rfl, by go_num, hlt, Hmz.out⟩
      case measure => simp [intOf]; omega
    · obtain rfl : j = l.length := by omega
      have hgr := hmr.heap Hgwa.out (fun h => h)
      have c1 : wr.cell? ⟨w.heap.size, 1, none⟩ = some (.slice a l.length cap) := cell_of hgr rfl
      have Hm := Lib.hid (Hmwa.out.trans hmr (fun _ _ h => h))
      clear hmr hgr
      by_cases hn : n ≤ 2000
      · go_wp2
        go_ret
        exact ⟨_, rfl, Hm.out⟩
      · have hn' : 2000 < n := by omega
        clear hn
        go_wp2
        go_ret
        exact ⟨_, rfl, Hm.out⟩

end Go.Proofs.YtloplmaekonenaaGreatDoor

namespace Go.Proofs.YtloplmaekonenaaGreatDoor
set_option maxRecDepth 20000
open Go.RowKit

/-- A filter in memory. -/
structure Fr where
  sc : ByteArray
  a : Option Addr
  c : Nat
  cs : List Cnd
def Fr.cells (f : Fr) : List Value := [.string f.sc, .slice f.a f.cs.length f.c]
def Fr.fil (f : Fr) : Fil := (f.sc, f.cs)
/-- Filters in memory: what each is made of is in range. -/
structure FrsAt (w : World) (v : Value) (l : List Fr) : Prop where
  rd : RdSl w 2 v l.length (l.flatMap Fr.cells)
  cs : ∀ f ∈ l, RdSl w 7 (.slice f.a f.cs.length f.c) f.cs.length (cnds f.cs)
  sc : ∀ f ∈ l, f.sc.size ≤ 9223372036854775807 ∧ f.cs.length ≤ 9223372036854775807
  nm : ∀ f ∈ l, ∀ c ∈ f.cs, c.name.size ≤ 9223372036854775807 ∧ (-9223372036854775808 ≤ c.v.int ∧ c.v.int ≤ 9223372036854775807) ∧ c.v.num < 2 ^ 64
theorem FrsAt.mod {w w' : World} {v : Value} {l : List Fr} (h : FrsAt w v l) (hm : Mod (fun _ => False) w w') : FrsAt w' v l := ⟨h.rd.mod hm (fun _ _ h => h), fun f hf => (h.cs f hf).mod hm (fun _ _ h => h), h.sc, h.nm⟩

end Go.Proofs.YtloplmaekonenaaGreatDoor

namespace Go.Proofs.YtloplmaekonenaaGreatDoor
set_option maxRecDepth 20000
open Go.RowKit Go.Sort

theorem skeys_at (mb : Option Nat) (w : World) : Calls Tryz.prog 57 #[.map mb] w fun e w' => e = .returned (.func (.func 96) #[] #[.pointer (some ⟨w.heap.size, 0, none⟩)]) ∧ w' = w.alloc (.cells #[.map mb] 61) :=
  Tryz.maps_Keys_57 mb w
theorem ssorted_at {w : World} {b n : Nat} {f : Lit → Option Value} (h : MapR w 9 b n f) (hn : n ≤ 1000000) {L : List (List UInt8)} (hnd : L.Nodup) (hm : ∀ x, x ∈ L ↔ (f (.string x)).isSome = true) :
    Calls Tryz.prog 56 #[.func (.func 96) #[] #[.pointer (some ⟨w.heap.size, 0, none⟩)]] (w.alloc (.cells #[.map (some b)] 61)) (SortedPost (w.alloc (.cells #[.map (some b)] 61)) 9 ((riseS L).map encStr)) := by
  obtain ⟨D, h1, h2, h3⟩ := h.keysS keyed_s Tryz.underlying9 hnd hm
  refine (Tryz.slices_Sorted_57 b n D rawR w h1 (by rw [h3]; unfold maxLen; omega) (by rw [h3]; omega)).mono ?_
  rintro e w' ⟨v, ss, rfl, hp, hrow, -, hb⟩
  obtain ⟨r1, r2⟩ := own_row' hrow
  have hs : ss.mergeSort (fun x y => decide (x ≤ y)) = riseS L := mergeSort_of_perm (hp.trans h2.symm)
  have hl : ss.length = (riseS L).length := by rw [← hs, List.length_mergeSort]
  rw [hs, hl] at r1
  exact ⟨v, rfl, by rw [List.length_map]; exact r1, r2, ⟨hb.os, hb.tape, hb.output, hb.size, fun k hk _ => hb.block k hk⟩⟩
theorem ssorted_nil (w : World) :
    Calls Tryz.prog 56 #[.func (.func 96) #[] #[.pointer (some ⟨w.heap.size, 0, none⟩)]] (w.alloc (.cells #[.map none] 61)) (SortedPost (w.alloc (.cells #[.map none] 61)) 9 []) := by
  refine (Tryz.slices_Sorted_nil_57 w).mono ?_
  rintro e w' ⟨rfl, hb⟩
  exact ⟨_, rfl, OwnSl.nil _ _ _, fun k hk => by simp [Value.ownBlock] at hk, ⟨hb.os, hb.tape, hb.output, hb.size, fun k hk _ => hb.block k hk⟩⟩
/-- A cell of a slice of values of one cell each. -/
theorem rd_one {α : Type} {enc : α → Value} {w : World} {a : Option Addr} {n cap : Nat} {l : List α} {j : Nat} {x : α} (h : RdSl w 1 (.slice a n cap) n (l.map enc)) (hx : l[j]? = some x) : ∃ g off, a = some ⟨g, off, none⟩ ∧ w.cell? ⟨g, off + j, none⟩ = some (enc x) := by
  obtain ⟨h0, a', c', h1, -, h3, h4⟩ := h
  cases h1
  have hj := (List.getElem?_eq_some_iff.1 hx).1
  have hn : n = l.length := by rw [List.length_map] at h0; omega
  cases a with
  | none => exact absurd (h3 rfl) (by omega)
  | some ad =>
    obtain ⟨g, off, rfl, hc⟩ := h4 ad rfl (by omega)
    refine ⟨g, off, rfl, hc j (enc x) ?_⟩
    rw [List.getElem?_map, hx]
    rfl
/-- A filter's conditions lie in blocks of C. -/
def FrC (w : World) (C : Nat → Prop) (f : Fr) : Prop := OwnSl w 81 7 (.slice f.a f.cs.length f.c) f.cs.length (cnds f.cs) ∧ ∀ k, (Value.slice f.a f.cs.length f.c).ownBlock = some k → k < w.heap.size ∧ C k
theorem FrC.mod {w w' : World} {F C : Nat → Prop} {f : Fr} (h : FrC w C f) (hm : Mod F w w') (hF : ∀ k, k < w.heap.size → F k → ¬ C k) : FrC w' C f := ⟨h.1.mod hm (fun k hk hf => hF k (h.2 k hk).1 hf (h.2 k hk).2), fun k hk => ⟨Nat.lt_of_lt_of_le (h.2 k hk).1 hm.size, (h.2 k hk).2⟩⟩
theorem fil_fr {w : World} {own C : Nat → Prop} {v : Option Value} {q : Option Fil} (h : FilIs w own C v q) (hq : q ≠ none) : ∃ f : Fr, v = some (.agg #[.string f.sc, .slice f.a f.cs.length f.c]) ∧ q = some f.fil ∧ FrC w C f := by
  cases v <;> cases q
  · exact absurd rfl hq
  · exact h.elim
  · exact h.elim
  · rename_i v q
    obtain ⟨a, cap, rfl, h2, h3⟩ := h
    exact ⟨⟨q.1, a, cap, q.2⟩, rfl, rfl, h2, fun k hk => ⟨(h3 k hk).1, (h3 k hk).2.2⟩⟩
theorem filsT : SliceT Tryz.prog 45 29 2 40 := sliceT (by kernel_rfl) (by kernel_rfl)
/-- The keys of a place. -/
def keysL (M : List (Int × Fil)) (id : Int) : List (List UInt8) := (M.filter fun p => p.1 == id).map fun p => keyF p.2
theorem keysL_mem {M : List (Int × Fil)} {id : Int} {k : List UInt8} : k ∈ keysL M id ↔ (tabF M id k).isSome = true := by
  unfold keysL
  constructor
  · intro h
    obtain ⟨p, h0, rfl⟩ := List.mem_map.1 h
    obtain ⟨h1, h2⟩ := List.mem_filter.1 h0
    cases hf : tabF M id (keyF p.2) with
    | some q => rfl
    | none =>
      obtain ⟨x, q⟩ := p
      have e : x = id := by simpa using h2
      subst e
      exact absurd rfl (tabF_none hf q h1)
  · intro h
    cases hf : tabF M id k with
    | none => rw [hf] at h; cases h
    | some q =>
      obtain ⟨h1, h2⟩ := tabF_some hf
      exact List.mem_map.2 ⟨(id, q), List.mem_filter.2 ⟨h1, by simp⟩, h2⟩
theorem keysL_nodup {M : List (Int × Fil)} (h : M.Pairwise fun p q => ¬ (p.1 = q.1 ∧ keyF p.2 = keyF q.2)) (id : Int) : (keysL M id).Nodup := by
  unfold keysL
  refine List.pairwise_map.2 ((h.filter _).imp_of_mem fun {a b} ha hb h e => h ⟨?_, e⟩)
  have h1 := (List.mem_filter.1 ha).2
  have h2 := (List.mem_filter.1 hb).2
  simp only [beq_iff_eq] at h1 h2
  rw [h1, h2]
theorem keysL_len (M : List (Int × Fil)) (id : Int) : (keysL M id).length ≤ M.length := by
  unfold keysL
  rw [List.length_map]
  exact List.length_filter_le _ _
/-- The filters of a place, by their keys. -/
def allQ (M : List (Int × Fil)) (id : Int) : List Fil := (riseS (keysL M id)).filterMap (tabF M id)
/-- What All leaves. -/
def TAllPost (w : World) (C : Nat → Prop) (L : List Fil) (e : Ending) (w' : World) : Prop :=
  ∃ v, ∃ l : List Fr, e = .returned v ∧ OwnSl w' 29 2 v l.length (l.flatMap Fr.cells) ∧ (∀ k, v.ownBlock = some k → w.heap.size ≤ k) ∧ l.map Fr.fil = L ∧ (∀ f ∈ l, FrC w' C f) ∧ Mod (fun _ => False) w w'
/-- A round of the loop that collects. -/
def AllRel (w1 : World) (C : Nat → Prop) (K : List (List UInt8)) (g : List UInt8 → Option Fil) (ov iv : Value) (wr : World) : Prop :=
  ∃ (j : Nat) (l : List Fr) (oa : Option Addr) (oc : Nat), iv = .int .i64 j ∧ j ≤ K.length ∧ l.length ≤ j ∧ ov = .slice oa l.length oc ∧ l.map Fr.fil = (K.take j).filterMap g ∧ OwnSl wr 29 2 ov l.length (l.flatMap Fr.cells) ∧ (∀ k, ov.ownBlock = some k → w1.heap.size ≤ k) ∧ (∀ f ∈ l, FrC wr C f) ∧ Mod (fun _ => False) w1 wr

set_option maxHeartbeats 8000000 in
theorem tall_at (w : World) (b : Nat) (own C : Nat → Prop) (M : List (Int × Fil)) (N : Nat) (h : Tab w b own C M N) (hN : N ≤ 100000) (id : Int) (hid : (Lit.int .i64 id).wf = true) :
    Calls Tryz.prog 31 #[.pointer (some ⟨b, 0, none⟩), .int .i64 id] w (TAllPost w C (allQ M id)) := by
  obtain ⟨mo, h⟩ := h
  have b0 : w.cell? ⟨b, 0, none⟩ = some (.map (some mo)) := cell_of h.row rfl
  obtain ⟨n, f, hf1, hf2, hf3, hf4⟩ := h.om
  have hkx := Maps.keyOf_int_mk Tryz.underlying3 hid
  have hlk := hf1.look keyed_i Tryz.underlying56 (zero_mm w) hkx
  have hval := (hf3 id).val
  obtain ⟨vv, hvv⟩ : ∃ vv, (f (.int .i64 id)).getD (.map none) = vv := ⟨_, rfl⟩
  rw [hvv] at hlk hval
  obtain ⟨mb, rfl, hsort⟩ : ∃ mb, vv = .map mb ∧ Calls Tryz.prog 56 #[.func (.func 96) #[] #[.pointer (some ⟨w.heap.size, 0, none⟩)]] (w.alloc (.cells #[.map mb] 61)) (SortedPost (w.alloc (.cells #[.map mb] 61)) 9 ((riseS (keysL M id)).map encStr)) := by
    rcases hval with ⟨-, rfl, hg⟩ | ⟨mi, -, rfl, -, -, -, hKA⟩
    · have e : keysL M id = [] := List.eq_nil_iff_forall_not_mem.2 fun k hk => by rw [keysL_mem, hg k] at hk; cases hk
      refine ⟨none, rfl, ?_⟩
      rw [e, show riseS [] = [] from List.mergeSort_nil]
      exact ssorted_nil w
    · obtain ⟨ni, fi, hi1, hi2, hi3⟩ := hKA
      refine ⟨some mi, rfl, ssorted_at hi1 (by omega) (keysL_nodup h.nd id) (fun k => ?_)⟩
      rw [keysL_mem]
      have h3 := hi3 k
      cases hk1 : fi (.string k) <;> cases hk2 : tabF M id k <;> rw [hk1, hk2] at h3
      · exact Iff.rfl
      · exact h3.elim
      · exact h3.elim
      · exact Iff.rfl
  have hkeys := skeys_at mb w
  obtain ⟨w1, hw1⟩ : ∃ w1 : World, w.alloc (.cells #[.map mb] 61) = w1 := ⟨_, rfl⟩
  have hm1 : Mod (fun _ => False) w w1 := hw1 ▸ (Mod.refl (fun _ => False) w).alloc _
  rw [hw1] at hsort hkeys
  obtain ⟨K, hK⟩ : ∃ K, riseS (keysL M id) = K := ⟨_, rfl⟩
  have hKl : K.length ≤ 100000 := by
    rw [← hK]
    unfold riseS
    rw [List.length_mergeSort]
    exact Nat.le_trans (keysL_len M id) (Nat.le_trans h.low hN)
  have hKs : ∀ k ∈ K, (tabF M id k).isSome = true := fun k hk => by rw [← hK, riseS_mem] at hk; exact keysL_mem.1 hk
  rw [hK] at hsort
  unfold allQ
  rw [hK]
  have H := Lib.hid h
  have Hf1 := Lib.hid hf1
  have Hf2 := Lib.hid hf2
  have Hf3 := Lib.hid hf3
  have Hf4 := Lib.hid hf4
  have Hkx := Lib.hid hkx
  have Hvv := Lib.hid hvv
  have Hval := Lib.hid hval
  have Hsort := Lib.hid hsort
  have Hkeys := Lib.hid hkeys
  have Hw1 := Lib.hid hw1
  have Hm1 := Lib.hid hm1
  have HK := Lib.hid hK
  have HKs := Lib.hid hKs
  clear h hf1 hf2 hf3 hf4 hkx hvv hval hsort hkeys hw1 hm1 hK hKs
  go_enter Tryz.func31, Tryz.ntmps31
  go_wp2_with fail
  refine Hkeys.out.mono ?_
  rintro e wx ⟨rfl, hwx⟩
  obtain rfl := hwx.symm
  go_wp2_with fail
  refine Hsort.out.mono ?_
  rintro e w2 ⟨sv, rfl, hso, hsb, hm2⟩
  obtain ⟨sa, sc, rfl, -⟩ := hso.shape
  rw [List.length_map] at hso ⊢
  have hm02 := Hm1.out.trans hm2 (fun _ _ h => h)
  have hrel0 : AllRel w2 C K (tabF M id) (.slice none 0 0) (.int .i64 ((0 : Nat) : Int)) w2 := ⟨0, [], none, 0, rfl, Nat.zero_le _, Nat.le_refl _, rfl, rfl, OwnSl.nil _ _ _, fun k hk => by simp [Value.ownBlock] at hk, fun f hf => (by cases hf), Mod.refl _ _⟩
  have Hso := Lib.hid hso
  have Hsb := Lib.hid hsb
  have Hm2 := Lib.hid hm2
  have Hm02 := Lib.hid hm02
  have Hrel0 := Lib.hid hrel0
  clear hso hsb hm2 hm02 hrel0
  go_wp2_with fail
  go_loopw [5, 17] (fun ov i wr => AllRel w2 C K (tabF M id) ov i wr) (fun _ i _ => K.length - (intOf i).toNat)
  case atStart => exact Hrel0.out
  case round =>
    revert wr
    intro wr hrel
    obtain ⟨j, l, oa, oc, rfl, hj, hlj, rfl, hlq, hown, hob, hfc, hmr⟩ := hrel
    have hm0r := Hm02.out.trans hmr (fun _ _ h => h)
    by_cases hlt : j < K.length
    · have hlt' : (j : Int) < K.length := by omega
      obtain ⟨k, hkj⟩ : ∃ k, K[j]? = some k := ⟨_, List.getElem?_eq_getElem hlt⟩
      have hks := HKs.out k (List.mem_of_getElem? hkj)
      have hkw : k.length ≤ maxLen := by
        cases hq : tabF M id k with
        | none => rw [hq] at hks; cases hks
        | some q =>
          obtain ⟨h1, h2⟩ := tabF_some hq
          have h3 := H.out.wf _ h1
          have h4 := filPrt_len q.1 q.2 h3.2.2
          have h5 := H.out.sc _ h1
          rw [show filPrt q.1 q.2 = k from h2] at h4
          have h6 := h3.2.1
          simp only [] at h6 h5
          unfold maxLen
          omega
      obtain ⟨g, off, rfl, ck⟩ := rd_one (Hso.out.rd.mod hmr (fun _ _ h => h)) hkj
      have ck' : wr.cell? ⟨g, off + j, none⟩ = some (.string (str k)) := ck
      have ht := H.out.mod hm0r (fun _ _ h => h.elim)
      have br : wr.cell? ⟨b, 0, none⟩ = some (.map (some mo)) := cell_of ht.row rfl
      have hv := (Hf3.out id).mod hm0r (fun _ _ h => h) (fun _ _ h => h.elim)
      have hlr := (Hf1.out.mod hm0r (fun h => h)).look keyed_i Tryz.underlying56 (zero_mm wr) Hkx.out
      rw [Hvv.out] at hlr
      have hvl := hv.val
      rw [Hvv.out] at hvl
      rcases hvl with ⟨-, -, hg⟩ | ⟨mi, -, hmb, -, -, -, ni, fi, hi1, hi2, hi3⟩
      · rw [hg k] at hks; cases hks
      cases hmb
      obtain ⟨fr, hfv, hfq, hfr⟩ := fil_fr (hi3 k) (fun h => by rw [h] at hks; cases hks)
      have hli := hi1.look keyed_s Tryz.underlying61 (zero_fil wr) (key_s k hkw)
      rw [hfv] at hli
      have hli' : (Instr.lookup 61 (.map (some mi)) (.string (str k)) false).run Tryz.prog wr = .ok (.agg #[.string fr.sc, .slice fr.a fr.cs.length fr.c]) wr := hli
      have hnx : (l ++ [fr]).map Fr.fil = (K.take (j + 1)).filterMap (tabF M id) := by
        rw [List.take_add_one, hkj, List.filterMap_append, ← hlq, List.map_append, Option.toList_some]
        congr 1
        rw [List.filterMap_cons, hfq]
        rfl
      obtain ⟨wz, hwz⟩ : ∃ wz : World, wr.alloc (.cells #[.string fr.sc, .slice fr.a fr.cs.length fr.c] 29) = wz := ⟨_, rfl⟩
      have hmwz : Mod (fun _ => False) wr wz := hwz ▸ (Mod.refl (fun _ => False) wr).alloc _
      have hgwz := heap_alloc_new wr (.cells #[.string fr.sc, .slice fr.a fr.cs.length fr.c] 29)
      rw [hwz] at hgwz
      have hzwz : wz.heap.size = wr.heap.size + 1 := by rw [← hwz]; simp
      have hrz : RdSl wz 2 (.slice (some ⟨wr.heap.size, 0, none⟩) 1 1) 1 [.string fr.sc, .slice fr.a fr.cs.length fr.c] := hwz ▸ RdSl.one wr [.string fr.sc, .slice fr.a fr.cs.length fr.c] 29 rfl
      have hone : ∀ u ∈ ([.string fr.sc, .slice fr.a fr.cs.length fr.c] : List Value), u.oneCell' = true := fun u hu => List.all_eq_true.1 (show ([.string fr.sc, .slice fr.a fr.cs.length fr.c] : List Value).all (·.oneCell') = true from rfl) u hu
      have hoz := hown.mod hmwz (fun _ _ h => h)
      have hm2z := hmr.trans hmwz (fun _ _ h => h)
      have hfcz : ∀ f ∈ l ++ [fr], FrC wz C f := fun f hf => by
        rcases List.mem_append.1 hf with hf | hf
        · exact (hfc f hf).mod hmwz (fun _ _ h => h.elim)
        · obtain rfl : f = fr := by simpa using hf
          exact hfr.mod hmwz (fun _ _ h => h.elim)
      have Hkj := Lib.hid hkj
      have Hks := Lib.hid hks
      have Ck := Lib.hid ck
      have Ht := Lib.hid ht
      have Hv := Lib.hid hv
      have Hi1 := Lib.hid hi1
      have Hi2 := Lib.hid hi2
      have Hi3 := Lib.hid hi3
      have Hfv := Lib.hid hfv
      have Hfq := Lib.hid hfq
      have Hfr := Lib.hid hfr
      have Hli := Lib.hid hli
      have Hnx := Lib.hid hnx
      have Hwz := Lib.hid hwz
      have Hmwz := Lib.hid hmwz
      have Hgwz := Lib.hid hgwz
      have Hrz := Lib.hid hrz
      have Hone := Lib.hid hone
      have Hoz := Lib.hid hoz
      have Hm2z := Lib.hid hm2z
      have Hfcz := Lib.hid hfcz
      have Hown := Lib.hid hown
      have Hob := Lib.hid hob
      have Hfc := Lib.hid hfc
      have Hmr := Lib.hid hmr
      have Hm0r := Lib.hid hm0r
      have Hlq := Lib.hid hlq
      have Hkw := Lib.hid hkw
      clear hkj hks ck ht hv hi1 hi2 hi3 hfv hfq hfr hli hnx hwz hmwz hgwz hrz hone hoz hm2z hfcz hown hob hfc hmr hm0r hlq hkw hzwz
      go_wp2_with (first | ((with_reducible refine wpList_build_one_lit 45 (.tmp 29) ?_); refine ⟨29, 2, Tryz.underlying45, by kernel_rfl, by kernel_rfl, by decide, by decide, [.string fr.sc, .slice fr.a fr.cs.length fr.c], rfl, rfl, ?_⟩; rw [Hwz.out]) | ((with_reducible refine wpList_append_lit (.tmp 21) (.tmp 30) 45 ?_); refine ⟨rfl, 29, 2, 40, filsT, .slice oa l.length oc, l.length, l.flatMap Fr.cells, rfl, Hoz.out, _, 1, [.string fr.sc, .slice fr.a fr.cs.length fr.c], rfl, Hrz.out, Hone.out, by omega, by unfold maxLen; omega, ?_⟩; intro ad cap5 w5 hA; have HA := Lib.hid hA; clear hA) | fail)
      go_roundw
      case rel =>
        refine ⟨j + 1, l ++ [fr], ad, cap5, by go_num, hlt, by rw [List.length_append, List.length_singleton]; omega, by rw [List.length_append]; rfl, Hnx.out, ?_, ?_, fun f hf => (Hfcz.out f hf).mod HA.out.2.1 (fun k hk h => ?_), Hm2z.out.upon HA.out.2.1 (fun k hk => .inr (Hob.out k hk))⟩
        · rw [List.length_append, List.flatMap_append]; exact HA.out.1
        · intro k hk
          rcases HA.out.2.2 with h3 | ⟨k', h3, h4⟩
          · exact Hob.out k (h3 ▸ hk)
          · rw [h3] at hk
            cases hk
            have := Hm2z.out.size
            omega
        · intro hc
          have h1 := H.out.clow _ hc
          have h2 := Hob.out k h
          have h3 := Hm02.out.size
          omega
      case measure => simp [intOf]; omega
    · obtain rfl : j = K.length := by omega
      rw [List.take_length] at hlq
      have Hlq := Lib.hid hlq
      have Hown := Lib.hid hown
      have Hob := Lib.hid hob
      have Hfc := Lib.hid hfc
      have Hmr := Lib.hid hmr
      have Hm0r := Lib.hid hm0r
      clear hlq hown hob hfc hmr hm0r
      go_wp2_with fail
      go_ret
      exact ⟨_, l, rfl, Hown.out, fun k hk => Nat.le_trans Hm02.out.size (Hob.out k hk), Hlq.out, Hfc.out, Hm0r.out⟩
end Go.Proofs.YtloplmaekonenaaGreatDoor
