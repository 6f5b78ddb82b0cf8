/-
  Few rules, and short ones.
  gazettelaw13.IndexGoes.
  Package table: All.
-/
import Derived.Test.YtloplmaekonenaaGreatDoorZe23
import Derived.Test.YtloplmaekonenaaGreatDoorZe34
import Derived.Test.YtloplmaekonenaaGreatDoorZe33
import Derived.Test.YtloplmaekonenaaGreatDoorZe25
namespace Go.Proofs.YtloplmaekonenaaGreatDoor
set_option maxRecDepth 20000
open Go.RowKit

/-- Some answer, yes or no. -/
def SomeBool (w : World) (e : Ending) (w' : World) : Prop := ∃ b, e = .returned (.bool b) ∧ Mod (fun _ => False) w w'
set_option maxHeartbeats 2000000 in
theorem light07_at (w : World) (sc : ByteArray) (cv : Value) (l : List Cnd) (hv : RdSl w 7 cv l.length (cnds l)) (hll : l.length ≤ 9223372036854775807) :
    Calls Tryz.prog 15 #[.agg #[.string sc, cv]] w (SomeBool w) := by
  obtain ⟨a, cap, rfl, hcap⟩ : ∃ a c, cv = .slice a l.length c ∧ l.length ≤ c := by obtain ⟨-, a, c, h, h2, -⟩ := hv; exact ⟨a, c, h, h2⟩
  have hll' : (l.length : Int) ≤ 9223372036854775807 := by omega
  have hcap' : (l.length : Int) ≤ cap := by omega
  obtain ⟨wa, hwa⟩ : ∃ wa : World, w.alloc (.cells #[.string sc, .slice a l.length cap] 29) = wa := ⟨_, rfl⟩
  have hmwa : Mod (fun _ => False) w wa := hwa ▸ (Mod.refl (fun _ => False) w).alloc _
  have hgwa := heap_alloc_new w (.cells #[.string sc, .slice a l.length cap] 29)
  rw [hwa] at hgwa
  have hzwa : wa.heap.size = w.heap.size + 1 := by rw [← hwa]; simp
  have hva := hv.mod hmwa (fun _ _ h => h)
  have c0 : wa.cell? ⟨w.heap.size, 0, none⟩ = some (.string sc) := cell_of hgwa rfl
  have c1 : wa.cell? ⟨w.heap.size, 1, none⟩ = some (.slice a l.length cap) := cell_of hgwa rfl
  have hqz : w.heap.size < wa.heap.size := by omega
  have Hv := Lib.hid hv
  have Hwa := Lib.hid hwa
  have Hmwa := Lib.hid hmwa
  have Hgwa := Lib.hid hgwa
  have Hva := Lib.hid hva
  clear hv hwa hmwa hgwa hva hzwa hll
  go_enter Tryz.func15, Tryz.ntmps15
  go_wp2_with (first | (rw [show w.alloc _ = wa from Hwa.out]) | fail)
  go_loopw [3, 12] (fun n i wr => ∃ (j : Nat) (x : Int), n = .int .i64 x ∧ i = .int .i64 j ∧ j ≤ l.length ∧ Mod (fun _ => False) wa wr) (fun _ i _ => l.length - (intOf i).toNat)
  case atStart => exact ⟨0, _, rfl, rfl, Nat.zero_le _, Mod.refl _ _⟩
  case round =>
    obtain ⟨j, n, rfl, rfl, hj, hmr⟩ := hrel
    by_cases hlt : j < l.length
    · have hlt' : (j : Int) < l.length := by omega
      obtain ⟨x, hxj⟩ : ∃ x, l[j]? = some x := ⟨_, List.getElem?_eq_getElem hlt⟩
      obtain ⟨g, off, rfl, hf⟩ : ∃ g off, a = some ⟨g, off, none⟩ ∧ CellsAt wr g (off + j * 7) x.cells := rd_cnd (Hva.out.mod hmr (fun _ _ h => h)) hxj
      obtain ⟨wz, hwz⟩ : ∃ wz : World, wr.alloc (.cells x.cells.toArray 81) = wz := ⟨_, rfl⟩
      have hmwz : Mod (fun _ => False) wr wz := hwz ▸ (Mod.refl (fun _ => False) wr).alloc _
      have hgwz := heap_alloc_new wr (.cells x.cells.toArray 81)
      rw [hwz] at hgwz
      have hzwz : wz.heap.size = wr.heap.size + 1 := by rw [← hwz]; simp
      have hmz := hmr.trans hmwz (fun _ _ h => h)
      have b0 : wz.cell? ⟨wr.heap.size, 0, none⟩ = some (.string x.name) := cell_of hgwz rfl
      have b5 : wz.cell? ⟨wr.heap.size, 5, none⟩ = some (.string x.v.text) := cell_of hgwz rfl
      have Hmr := Lib.hid hmr
      have Hxj := Lib.hid hxj
      have Hf := Lib.hid hf
      have Hwz := Lib.hid hwz
      have Hmwz := Lib.hid hmwz
      have Hgwz := Lib.hid hgwz
      have Hmz := Lib.hid hmz
      clear hmr hxj hf hwz hmwz hgwz hmz hzwz c0 c1
      go_wp2_with (first | ((with_reducible refine wpList_load_lit 81 (.tmp 14) ?_); refine ⟨g, off + j * 7, rfl, x.cells, Hf.out, by kernel_rfl, by kernel_rfl, ?_⟩) | ((with_reducible refine wpList_store_lit 81 (.tmp 5) (.tmp 15) ?_); refine ⟨rfl, x.cells, rfl, rfl, by kernel_rfl, rfl, ?_⟩; rw [Hwz.out]) | fail)
      go_roundw
      case rel => exact ⟨j + 1, _, rfl, by go_num, hlt, Hmz.out⟩
      case measure => simp [intOf]; omega
    · obtain rfl : j = l.length := by omega
      have hgr := hmr.heap Hgwa.out (fun h => h)
      have c1 : wr.cell? ⟨w.heap.size, 1, none⟩ = some (.slice a l.length cap) := cell_of hgr rfl
      have Hm := Lib.hid (Hmwa.out.trans hmr (fun _ _ h => h))
      clear hmr hgr
      by_cases hn : n ≤ 2000
      · go_wp2
        go_ret
        exact ⟨_, rfl, Hm.out⟩
      · have hn' : 2000 < n := by omega
        clear hn
        go_wp2
        go_ret
        exact ⟨_, rfl, Hm.out⟩

end Go.Proofs.YtloplmaekonenaaGreatDoor

namespace Go.Proofs.YtloplmaekonenaaGreatDoor
set_option maxRecDepth 20000
open Go.RowKit

/-- A filter in memory. -/
structure Fr where
  sc : ByteArray
  a : Option Addr
  c : Nat
  cs : List Cnd
def Fr.cells (f : Fr) : List Value := [.string f.sc, .slice f.a f.cs.length f.c]
def Fr.fil (f : Fr) : Fil := (f.sc, f.cs)
/-- Filters in memory: what each is made of is in range. -/
structure FrsAt (w : World) (v : Value) (l : List Fr) : Prop where
  rd : RdSl w 2 v l.length (l.flatMap Fr.cells)
  cs : ∀ f ∈ l, RdSl w 7 (.slice f.a f.cs.length f.c) f.cs.length (cnds f.cs)
  sc : ∀ f ∈ l, f.sc.size ≤ 9223372036854775807 ∧ f.cs.length ≤ 9223372036854775807
  nm : ∀ f ∈ l, ∀ c ∈ f.cs, c.name.size ≤ 9223372036854775807 ∧ (-9223372036854775808 ≤ c.v.int ∧ c.v.int ≤ 9223372036854775807) ∧ c.v.num < 2 ^ 64
theorem FrsAt.mod {w w' : World} {v : Value} {l : List Fr} (h : FrsAt w v l) (hm : Mod (fun _ => False) w w') : FrsAt w' v l := ⟨h.rd.mod hm (fun _ _ h => h), fun f hf => (h.cs f hf).mod hm (fun _ _ h => h), h.sc, h.nm⟩

end Go.Proofs.YtloplmaekonenaaGreatDoor

namespace Go.Proofs.YtloplmaekonenaaGreatDoor
set_option maxRecDepth 20000
open Go.RowKit Go.Sort

theorem skeys_at (mb : Option Nat) (w : World) : Calls Tryz.prog 57 #[.map mb] w fun e w' => e = .returned (.func (.func 96) #[] #[.pointer (some ⟨w.heap.size, 0, none⟩)]) ∧ w' = w.alloc (.cells #[.map mb] 61) :=
  Tryz.maps_Keys_57 mb w
theorem ssorted_at {w : World} {b n : Nat} {f : Lit → Option Value} (h : MapR w 9 b n f) (hn : n ≤ 1000000) {L : List (List UInt8)} (hnd : L.Nodup) (hm : ∀ x, x ∈ L ↔ (f (.string x)).isSome = true) :
    Calls Tryz.prog 56 #[.func (.func 96) #[] #[.pointer (some ⟨w.heap.size, 0, none⟩)]] (w.alloc (.cells #[.map (some b)] 61)) (SortedPost (w.alloc (.cells #[.map (some b)] 61)) 9 ((riseS L).map encStr)) := by
  obtain ⟨D, h1, h2, h3⟩ := h.keysS keyed_s Tryz.underlying9 hnd hm
  refine (Tryz.slices_Sorted_57 b n D rawR w h1 (by rw [h3]; unfold maxLen; omega) (by rw [h3]; omega)).mono ?_
  rintro e w' ⟨v, ss, rfl, hp, hrow, -, hb⟩
  obtain ⟨r1, r2⟩ := own_row' hrow
  have hs : ss.mergeSort (fun x y => decide (x ≤ y)) = riseS L := mergeSort_of_perm (hp.trans h2.symm)
  have hl : ss.length = (riseS L).length := by rw [← hs, List.length_mergeSort]
  rw [hs, hl] at r1
  exact ⟨v, rfl, by rw [List.length_map]; exact r1, r2, ⟨hb.os, hb.tape, hb.output, hb.size, fun k hk _ => hb.block k hk⟩⟩
/-- A cell of a slice of values of one cell each. -/
theorem rd_one {α : Type} {enc : α → Value} {w : World} {a : Option Addr} {n cap : Nat} {l : List α} {j : Nat} {x : α} (h : RdSl w 1 (.slice a n cap) n (l.map enc)) (hx : l[j]? = some x) : ∃ g off, a = some ⟨g, off, none⟩ ∧ w.cell? ⟨g, off + j, none⟩ = some (enc x) := by
  obtain ⟨h0, a', c', h1, -, h3, h4⟩ := h
  cases h1
  have hj := (List.getElem?_eq_some_iff.1 hx).1
  have hn : n = l.length := by rw [List.length_map] at h0; omega
  cases a with
  | none => exact absurd (h3 rfl) (by omega)
  | some ad =>
    obtain ⟨g, off, rfl, hc⟩ := h4 ad rfl (by omega)
    refine ⟨g, off, rfl, hc j (enc x) ?_⟩
    rw [List.getElem?_map, hx]
    rfl
/-- A filter's conditions lie in blocks of C. -/
def FrC (w : World) (C : Nat → Prop) (f : Fr) : Prop := OwnSl w 81 7 (.slice f.a f.cs.length f.c) f.cs.length (cnds f.cs) ∧ ∀ k, (Value.slice f.a f.cs.length f.c).ownBlock = some k → k < w.heap.size ∧ C k
theorem FrC.mod {w w' : World} {F C : Nat → Prop} {f : Fr} (h : FrC w C f) (hm : Mod F w w') (hF : ∀ k, k < w.heap.size → F k → ¬ C k) : FrC w' C f := ⟨h.1.mod hm (fun k hk hf => hF k (h.2 k hk).1 hf (h.2 k hk).2), fun k hk => ⟨Nat.lt_of_lt_of_le (h.2 k hk).1 hm.size, (h.2 k hk).2⟩⟩
theorem fil_fr {w : World} {own C : Nat → Prop} {v : Option Value} {q : Option Fil} (h : FilIs w own C v q) (hq : q ≠ none) : ∃ f : Fr, v = some (.agg #[.string f.sc, .slice f.a f.cs.length f.c]) ∧ q = some f.fil ∧ FrC w C f := by
  cases v <;> cases q
  · exact absurd rfl hq
  · exact h.elim
  · exact h.elim
  · rename_i v q
    obtain ⟨a, cap, rfl, h2, h3⟩ := h
    exact ⟨⟨q.1, a, cap, q.2⟩, rfl, rfl, h2, fun k hk => ⟨(h3 k hk).1, (h3 k hk).2.2⟩⟩
theorem filsT : SliceT Tryz.prog 45 29 2 40 := sliceT (by kernel_rfl) (by kernel_rfl)
/-- The keys of a place. -/
def keysL (M : List (Int × Fil)) (id : Int) : List (List UInt8) := (M.filter fun p => p.1 == id).map fun p => keyF p.2
theorem keysL_mem {M : List (Int × Fil)} {id : Int} {k : List UInt8} : k ∈ keysL M id ↔ (tabF M id k).isSome = true := by
  unfold keysL
  constructor
  · intro h
    obtain ⟨p, h0, rfl⟩ := List.mem_map.1 h
    obtain ⟨h1, h2⟩ := List.mem_filter.1 h0
    cases hf : tabF M id (keyF p.2) with
    | some q => rfl
    | none =>
      obtain ⟨x, q⟩ := p
      have e : x = id := by simpa using h2
      subst e
      exact absurd rfl (tabF_none hf q h1)
  · intro h
    cases hf : tabF M id k with
    | none => rw [hf] at h; cases h
    | some q =>
      obtain ⟨h1, h2⟩ := tabF_some hf
      exact List.mem_map.2 ⟨(id, q), List.mem_filter.2 ⟨h1, by simp⟩, h2⟩
theorem keysL_nodup {M : List (Int × Fil)} (h : M.Pairwise fun p q => ¬ (p.1 = q.1 ∧ keyF p.2 = keyF q.2)) (id : Int) : (keysL M id).Nodup := by
  unfold keysL
  refine List.pairwise_map.2 ((h.filter _).imp_of_mem fun {a b} ha hb h e => h ⟨?_, e⟩)
  have h1 := (List.mem_filter.1 ha).2
  have h2 := (List.mem_filter.1 hb).2
  simp only [beq_iff_eq] at h1 h2
  rw [h1, h2]
theorem keysL_len (M : List (Int × Fil)) (id : Int) : (keysL M id).length ≤ M.length := by
  unfold keysL
  rw [List.length_map]
  exact List.length_filter_le _ _
/-- What All leaves. -/
def TAllPost (w : World) (C : Nat → Prop) (L : List Fil) (e : Ending) (w' : World) : Prop :=
  ∃ v, ∃ l : List Fr, e = .returned v ∧ OwnSl w' 29 2 v l.length (l.flatMap Fr.cells) ∧ (∀ k, v.ownBlock = some k → w.heap.size ≤ k) ∧ l.map Fr.fil = L ∧ (∀ f ∈ l, FrC w' C f) ∧ Mod (fun _ => False) w w'
/-- A round of the loop that collects. -/
def AllRel (w1 : World) (C : Nat → Prop) (K : List (List UInt8)) (g : List UInt8 → Option Fil) (ov iv : Value) (wr : World) : Prop :=
  ∃ (j : Nat) (l : List Fr) (oa : Option Addr) (oc : Nat), iv = .int .i64 j ∧ j ≤ K.length ∧ l.length ≤ j ∧ ov = .slice oa l.length oc ∧ l.map Fr.fil = (K.take j).filterMap g ∧ OwnSl wr 29 2 ov l.length (l.flatMap Fr.cells) ∧ (∀ k, ov.ownBlock = some k → w1.heap.size ≤ k) ∧ (∀ f ∈ l, FrC wr C f) ∧ Mod (fun _ => False) w1 wr

end Go.Proofs.YtloplmaekonenaaGreatDoor
