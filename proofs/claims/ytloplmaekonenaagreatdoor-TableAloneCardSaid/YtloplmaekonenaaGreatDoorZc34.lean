/-
  The plain law of what a table tells: of the filters from elsewhere those that no other one covers.
  Package event: New.
  Package acl: Right.
  What is right is small; the names of an event are unlike.
  Few rules, and short ones.
  gazettelaw13.IndexGoes.
-/
import Derived.Test.YtloplmaekonenaaGreatDoorZc31
import Derived.Test.YtloplmaekonenaaGreatDoorZc33
import Derived.Test.YtloplmaekonenaaGreatDoorZc19
import Derived.Test.YtloplmaekonenaaGreatDoorZc14
import Derived.Test.YtloplmaekonenaaGreatDoorZc22
import Derived.Test.YtloplmaekonenaaGreatDoorZc23
namespace Go.Proofs.YtloplmaekonenaaGreatDoor
set_option maxRecDepth 20000
open Go.RowKit Go.Sort

/-- Each once. -/
def onceS : List (List UInt8) → List (List UInt8)
  | [] => []
  | k :: l => if k ∈ onceS l then onceS l else k :: onceS l
theorem onceS_mem {l : List (List UInt8)} {k : List UInt8} : k ∈ onceS l ↔ k ∈ l := by
  induction l generalizing k with
  | nil => exact Iff.rfl
  | cons a l ih =>
    unfold onceS
    split
    · rename_i h
      rw [ih, List.mem_cons]
      exact ⟨.inr, fun h2 => h2.elim (fun e => by rw [e]; exact ih.1 h) id⟩
    · rw [List.mem_cons, List.mem_cons, ih]
theorem onceS_nodup (l : List (List UInt8)) : (onceS l).Nodup := by
  induction l with
  | nil => exact List.nodup_nil
  | cons a l ih =>
    unfold onceS
    split
    · exact ih
    · rename_i h
      exact List.nodup_cons.2 ⟨h, ih⟩
/-- What all places but one have under a key. -/
def allF (M : List (Int × Fil)) (td : Int) (k : List UInt8) : Option Fil := (M.find? fun p => !(p.1 == td) && keyF p.2 == k).map Prod.snd
/-- Their keys, rising, each once. -/
def allK (M : List (Int × Fil)) (td : Int) : List (List UInt8) := riseS (onceS ((M.filter fun p => !(p.1 == td)).map fun p => keyF p.2))
/-- Does a filter cover another one? -/
def covQ (f g : Fil) : Bool := covF f.1 f.2 g.1 g.2
/-- Is one covered by another one that it doesn't cover itself, or with a lesser key? -/
def covdF (g : List UInt8 → Option Fil) (ks : List (List UInt8)) (k : List UInt8) (f : Fil) : Bool :=
  ks.any fun j => match g j with | some h => decide (j ≠ k) && (covQ h f && (decide (j < k) || !covQ f h)) | none => false
/-- What is told. -/
def outL (M : List (Int × Fil)) (td : Int) : List Fil := (allK M td).filterMap fun k => (allF M td k).filter fun f => !covdF (allF M td) (allK M td) k f

theorem riseS_mem {L : List (List UInt8)} {x : List UInt8} : x ∈ riseS L ↔ x ∈ L := (List.mergeSort_perm L leB).mem_iff
theorem allF_some {M : List (Int × Fil)} {td : Int} {k : List UInt8} {q : Fil} (h : allF M td k = some q) : keyF q = k ∧ ∃ x, x ≠ td ∧ (x, q) ∈ M := by
  unfold allF at h
  obtain ⟨p, h1, rfl⟩ := Option.map_eq_some_iff.1 h
  have h2 := List.find?_some h1
  simp only [Bool.and_eq_true, beq_iff_eq, Bool.not_eq_true', beq_eq_false_iff_ne] at h2
  exact ⟨h2.2, p.1, h2.1, List.mem_of_find?_eq_some h1⟩
theorem allF_has {M : List (Int × Fil)} {td x : Int} {q : Fil} (h : (x, q) ∈ M) (hx : x ≠ td) : ∃ r, allF M td (keyF q) = some r := by
  cases h1 : allF M td (keyF q) with
  | some r => exact ⟨r, rfl⟩
  | none =>
    unfold allF at h1
    rw [Option.map_eq_none_iff, List.find?_eq_none] at h1
    have := h1 _ h
    simp [hx] at this
theorem allK_mem {M : List (Int × Fil)} {td : Int} {k : List UInt8} : k ∈ allK M td ↔ ∃ q, allF M td k = some q := by
  unfold allK
  rw [riseS_mem, onceS_mem]
  constructor
  · intro h
    obtain ⟨p, h1, rfl⟩ := List.mem_map.1 h
    obtain ⟨h1, h2⟩ := List.mem_filter.1 h1
    exact allF_has (x := p.1) h1 (by simpa using h2)
  · rintro ⟨q, h⟩
    obtain ⟨rfl, x, h1, h2⟩ := allF_some h
    exact List.mem_map.2 ⟨(x, q), List.mem_filter.2 ⟨h2, by simpa using h1⟩, rfl⟩
end Go.Proofs.YtloplmaekonenaaGreatDoor

namespace Go.Proofs.YtloplmaekonenaaGreatDoor
set_option maxRecDepth 20000
open Go.RowKit

def Att.canon (a : Att) : Att := ⟨a.name, a.v.canon⟩
end Go.Proofs.YtloplmaekonenaaGreatDoor

namespace Go.Proofs.YtloplmaekonenaaGreatDoor
set_option maxRecDepth 20000
open Go.RowKit

/-- May it be a rule, as far as it tells by itself? -/
def Ru.rightB (r : Ru) : Bool :=
  if r.kind = 4 then decide (0 ≤ r.at_) else
  if r.kind < 0 ∨ 4 < r.kind ∨ r.tenant < 0 ∨ 4 ≤ r.tenant ∨ isName r.who = false then false else
  if r.kind = 0 then decide (0 ≤ r.broker) && decide (r.broker < 6) else
  if r.kind = 3 then isName r.name && scRight r.sc else filRight r.sc r.cs

end Go.Proofs.YtloplmaekonenaaGreatDoor

namespace Go.Proofs.YtloplmaekonenaaGreatDoor
set_option maxRecDepth 20000
open Go.RowKit

theorem nm_size {s : ByteArray} (h : isName s = true) : s.size ≤ 12 := by
  unfold isName at h
  simp only [Bool.and_eq_true, decide_eq_true_eq] at h
  exact h.2.2
theorem cut_sz (s : ByteArray) : s.size ≤ (cutS s).1.size + 1 + (cutS s).2.1.size := by
  unfold cutS
  split
  · simp only [ByteArray.size_extract]
    omega
  · show s.size ≤ s.size + 1 + _
    omega
theorem scN_size : ∀ (f : Nat) (s : ByteArray) (k : Nat), scN f s = some k → s.size ≤ 13 * k
  | 0, s, k, h => by cases h
  | f + 1, s, k, h => by
    rw [scN_succ] at h
    have hc := cut_sz s
    by_cases h1 : isName (cutS s).1 = true
    · rw [if_pos h1] at h
      have hn := nm_size h1
      by_cases h2 : (cutS s).2.2 = true
      · rw [if_pos h2] at h
        cases h3 : scN f (cutS s).2.1 with
        | none => rw [h3] at h; cases h
        | some k' =>
          rw [h3] at h
          have h4 : k' + 1 = k := by simpa using h
          have := scN_size f _ k' h3
          omega
      · rw [if_neg h2] at h
        have h4 : (cutS s).1 = s := by
          unfold cutS at h2 ⊢
          split
          · rename_i h5; rw [if_pos h5] at h2; exact absurd rfl h2
          · rfl
        rw [h4] at hn
        have h4 : 1 = k := by simpa using h
        omega
    · rw [if_neg h1] at h; cases h
theorem scRight_size {s : ByteArray} (h : scRight s = true) : s.size ≤ 52 := by
  unfold scRight at h
  rw [Bool.or_eq_true] at h
  rcases h with h | h
  · rw [List.isEmpty_iff, ByteArray.toList_eq] at h
    have : s.size = s.data.toList.length := by rw [Array.length_toList]; rfl
    rw [this, h]
    exact Nat.zero_le _
  · unfold scM at h
    cases h1 : scN (s.size + 1) s with
    | none => rw [h1] at h; cases h
    | some k =>
      rw [h1] at h
      have := scN_size _ _ _ h1
      simp only [decide_eq_true_eq] at h
      omega
/-- What a right filter is like. -/
theorem fil_bounds {sc : ByteArray} {l : List Cnd} (h : filRight sc l = true) : sc.size ≤ 52 ∧ l.length ≤ 6 ∧ ∀ c ∈ l, c.name.size ≤ 12 ∧ (0 ≤ c.op ∧ c.op ≤ 7) ∧ (0 ≤ c.v.kind ∧ c.v.kind ≤ 3) ∧ c.v.text.size ≤ 40 := by
  unfold filRight at h
  simp only [Bool.and_eq_true, List.all_eq_true, decide_eq_true_eq] at h
  refine ⟨scRight_size h.2.1, h.2.2, fun c hc => ?_⟩
  have h1 := h.1 c hc
  unfold Cnd.rightB V.right at h1
  simp only [Bool.and_eq_true, decide_eq_true_eq] at h1
  exact ⟨nm_size h1.1, ⟨h1.2.1, h1.2.2.1⟩, ⟨h1.2.2.2.1, h1.2.2.2.2.1⟩, h1.2.2.2.2.2⟩
end Go.Proofs.YtloplmaekonenaaGreatDoor

namespace Go.Proofs.YtloplmaekonenaaGreatDoor
set_option maxRecDepth 20000
open Go.RowKit

/-- Some answer, yes or no. -/
def SomeBool (w : World) (e : Ending) (w' : World) : Prop := ∃ b, e = .returned (.bool b) ∧ Mod (fun _ => False) w w'
set_option maxHeartbeats 2000000 in
theorem light07_at (w : World) (sc : ByteArray) (cv : Value) (l : List Cnd) (hv : RdSl w 7 cv l.length (cnds l)) (hll : l.length ≤ 9223372036854775807) :
    Calls Tryz.prog 15 #[.agg #[.string sc, cv]] w (SomeBool w) := by
  obtain ⟨a, cap, rfl, hcap⟩ : ∃ a c, cv = .slice a l.length c ∧ l.length ≤ c := by obtain ⟨-, a, c, h, h2, -⟩ := hv; exact ⟨a, c, h, h2⟩
  have hll' : (l.length : Int) ≤ 9223372036854775807 := by omega
  have hcap' : (l.length : Int) ≤ cap := by omega
  obtain ⟨wa, hwa⟩ : ∃ wa : World, w.alloc (.cells #[.string sc, .slice a l.length cap] 29) = wa := ⟨_, rfl⟩
  have hmwa : Mod (fun _ => False) w wa := hwa ▸ (Mod.refl (fun _ => False) w).alloc _
  have hgwa := heap_alloc_new w (.cells #[.string sc, .slice a l.length cap] 29)
  rw [hwa] at hgwa
  have hzwa : wa.heap.size = w.heap.size + 1 := by rw [← hwa]; simp
  have hva := hv.mod hmwa (fun _ _ h => h)
  have c0 : wa.cell? ⟨w.heap.size, 0, none⟩ = some (.string sc) := cell_of hgwa rfl
  have c1 : wa.cell? ⟨w.heap.size, 1, none⟩ = some (.slice a l.length cap) := cell_of hgwa rfl
  have hqz : w.heap.size < wa.heap.size := by omega
  have Hv := Lib.hid hv
  have Hwa := Lib.hid hwa
  have Hmwa := Lib.hid hmwa
  have Hgwa := Lib.hid hgwa
  have Hva := Lib.hid hva
  clear hv hwa hmwa hgwa hva hzwa hll
  go_enter Tryz.func15, Tryz.ntmps15
  go_wp2_with (first | (rw [show w.alloc _ = wa from Hwa.out]) | fail)
  go_loopw [3, 12] (fun n i wr => ∃ (j : Nat) (x : Int), n = .int .i64 x ∧ i = .int .i64 j ∧ j ≤ l.length ∧ Mod (fun _ => False) wa wr) (fun _ i _ => l.length - (intOf i).toNat)
  case atStart => exact ⟨0, _, rfl, rfl, Nat.zero_le _, Mod.refl _ _⟩
  case round =>
    obtain ⟨j, n, rfl, rfl, hj, hmr⟩ := hrel
    by_cases hlt : j < l.length
    · have hlt' : (j : Int) < l.length := by omega
      obtain ⟨x, hxj⟩ : ∃ x, l[j]? = some x := ⟨_, List.getElem?_eq_getElem hlt⟩
      obtain ⟨g, off, rfl, hf⟩ : ∃ g off, a = some ⟨g, off, none⟩ ∧ CellsAt wr g (off + j * 7) x.cells := rd_cnd (Hva.out.mod hmr (fun _ _ h => h)) hxj
      obtain ⟨wz, hwz⟩ : ∃ wz : World, wr.alloc (.cells x.cells.toArray 81) = wz := ⟨_, rfl⟩
      have hmwz : Mod (fun _ => False) wr wz := hwz ▸ (Mod.refl (fun _ => False) wr).alloc _
      have hgwz := heap_alloc_new wr (.cells x.cells.toArray 81)
      rw [hwz] at hgwz
      have hzwz : wz.heap.size = wr.heap.size + 1 := by rw [← hwz]; simp
      have hmz := hmr.trans hmwz (fun _ _ h => h)
      have b0 : wz.cell? ⟨wr.heap.size, 0, none⟩ = some (.string x.name) := cell_of hgwz rfl
      have b5 : wz.cell? ⟨wr.heap.size, 5, none⟩ = some (.string x.v.text) := cell_of hgwz rfl
      have Hmr := Lib.hid hmr
      have Hxj := Lib.hid hxj
      have Hf := Lib.hid hf
      have Hwz := Lib.hid hwz
      have Hmwz := Lib.hid hmwz
      have Hgwz := Lib.hid hgwz
      have Hmz := Lib.hid hmz
      clear hmr hxj hf hwz hmwz hgwz hmz hzwz c0 c1
      go_wp2_with (first | ((with_reducible refine wpList_load_lit 81 (.tmp 14) ?_); refine ⟨g, off + j * 7, rfl, x.cells, Hf.out, by kernel_rfl, by kernel_rfl, ?_⟩) | ((with_reducible refine wpList_store_lit 81 (.tmp 5) (.tmp 15) ?_); refine ⟨rfl, x.cells, rfl, rfl, by kernel_rfl, rfl, ?_⟩; rw [Hwz.out]) | fail)
      go_roundw
      case rel => exact ⟨j + 1, _, rfl, by go_num, hlt, Hmz.out⟩
      case measure => simp [intOf]; omega
    · obtain rfl : j = l.length := by omega
      have hgr := hmr.heap Hgwa.out (fun h => h)
      have c1 : wr.cell? ⟨w.heap.size, 1, none⟩ = some (.slice a l.length cap) := cell_of hgr rfl
      have Hm := Lib.hid (Hmwa.out.trans hmr (fun _ _ h => h))
      clear hmr hgr
      by_cases hn : n ≤ 2000
      · go_wp2
        go_ret
        exact ⟨_, rfl, Hm.out⟩
      · have hn' : 2000 < n := by omega
        clear hn
        go_wp2
        go_ret
        exact ⟨_, rfl, Hm.out⟩

end Go.Proofs.YtloplmaekonenaaGreatDoor

namespace Go.Proofs.YtloplmaekonenaaGreatDoor
set_option maxRecDepth 20000
open Go.RowKit

/-- A filter in memory. -/
structure Fr where
  sc : ByteArray
  a : Option Addr
  c : Nat
  cs : List Cnd
def Fr.cells (f : Fr) : List Value := [.string f.sc, .slice f.a f.cs.length f.c]
def Fr.fil (f : Fr) : Fil := (f.sc, f.cs)
/-- Filters in memory: what each is made of is in range. -/
structure FrsAt (w : World) (v : Value) (l : List Fr) : Prop where
  rd : RdSl w 2 v l.length (l.flatMap Fr.cells)
  cs : ∀ f ∈ l, RdSl w 7 (.slice f.a f.cs.length f.c) f.cs.length (cnds f.cs)
  sc : ∀ f ∈ l, f.sc.size ≤ 9223372036854775807 ∧ f.cs.length ≤ 9223372036854775807
  nm : ∀ f ∈ l, ∀ c ∈ f.cs, c.name.size ≤ 9223372036854775807 ∧ (-9223372036854775808 ≤ c.v.int ∧ c.v.int ≤ 9223372036854775807) ∧ c.v.num < 2 ^ 64
theorem FrsAt.mod {w w' : World} {v : Value} {l : List Fr} (h : FrsAt w v l) (hm : Mod (fun _ => False) w w') : FrsAt w' v l := ⟨h.rd.mod hm (fun _ _ h => h), fun f hf => (h.cs f hf).mod hm (fun _ _ h => h), h.sc, h.nm⟩

end Go.Proofs.YtloplmaekonenaaGreatDoor
