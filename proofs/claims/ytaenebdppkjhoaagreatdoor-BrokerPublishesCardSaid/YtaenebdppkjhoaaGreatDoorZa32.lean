/-
  A policy's rules: what may come next, what is gone, what counts (package policy). Plain Lean.
  Maps that the call made, of values as they are: what is looked up, put, struck out and counted.
  The keys of a map that the call made, sorted; ranges over such maps.
  Package index in memory; New, Len.
  Package index: Add.
  A range over a map that the call made, of values as they are.
-/
import Derived.Test.YtaenebdppkjhoaaGreatDoorZa14
import Derived.Test.YtaenebdppkjhoaaGreatDoorZa10
import Derived.Test.YtaenebdppkjhoaaGreatDoorZa31
import Derived.Test.YtaenebdppkjhoaaGreatDoorZa1
import Derived.Test.YtaenebdppkjhoaaGreatDoorChecked
import Derived.Maps.OwnSet
import Derived.Maps.Own
import Derived.Carry
import Derived.Maps.RangeWalk
import Derived.Test.YtaenebdppkjhoaaGreatDoorZa4
import Derived.Sort.KeysCollected
namespace Go.Proofs.YtaenebdppkjhoaaGreatDoor
set_option maxRecDepth 20000
open Go.RowKit

/-- Is a rule revoked by a version? -/
def goneP (L : List PRu) (i : Int) (v : Nat) : Bool := (L.take v).any fun r => decide (r.kind = 4) && decide (r.at_ = i)
/-- How many joined. -/
def peopleP (L : List PRu) : Nat := (L.filter fun r => decide (r.kind = 0)).length
/-- A principal's broker, by the last rule that tells it. -/
def homeP (L : List PRu) (tenant : Int) (who : ByteArray) : Option Int := homeOf (L.map fun p => p.lies none 0) tenant who
/-- What a revocation's rule is. -/
def revP (L : List PRu) (p : PRu) : Bool :=
  if p.at_ < 0 then false else match L[p.at_.toNat]? with
  | none => false
  | some o => !(decide (o.kind = 4)) && !(decide (o.kind = 0)) && !goneP L p.at_ L.length
/-- May a rule come next? 0: it may; else what is wrong. -/
def chkP (L : List PRu) (p : PRu) : Int :=
  if p.rightB = false then 1 else if L.length = 40 then 6 else
  if p.kind = 4 then (if revP L p then 0 else 3) else
  if p.kind = 0 then (if (homeP L p.tenant p.who).isSome then 4 else if peopleP L = 12 then 6 else 0) else
  if (homeP L p.tenant p.who).isSome then 0 else 3
/-- A rule as it is kept. -/
def PRu.kept (p : PRu) : PRu := if filRight p.sc p.cs then { p with cs := normC p.cs } else p
/-- The rules behind one more. -/
def addP (L : List PRu) (p : PRu) : List PRu := if chkP L p = 0 then L ++ [p.kept] else L
/-- Those that count by a version. -/
def atP (L : List PRu) (v : Nat) : List PRu := (L.take v).zipIdx.filterMap fun q => if decide (q.1.kind = 4) || goneP L q.2 v then none else some q.1
/-- No more than forty. -/
theorem addP_forty {L : List PRu} (h : L.length ≤ 40) (p : PRu) : (addP L p).length ≤ 40 := by
  unfold addP
  split
  · rename_i h1
    have h2 : L.length ≠ 40 := fun e => by
      unfold chkP at h1
      by_cases hr : p.rightB = false
      · rw [if_pos hr] at h1
        exact absurd h1 (by decide)
      · rw [if_neg hr, if_pos e] at h1
        exact absurd h1 (by decide)
    rw [List.length_append, List.length_singleton]
    omega
  · exact h
end Go.Proofs.YtaenebdppkjhoaaGreatDoor

namespace Go.Proofs.YtaenebdppkjhoaaGreatDoor
set_option maxRecDepth 20000
open Go.RowKit

def rawR : Value → Option (DataW Value × List MemPlace) := fun v => some (.held v, [])
/-- Block b is a map with n entries; what is in it is said by f. -/
def MapR (w : World) (kt : TypeId) (b n : Nat) (f : Lit → Option Value) : Prop :=
  ∃ D : DataW Value, w.ownsMap Tryz.prog kt rawR b n D ∧ Maps.size D = n ∧ (∀ kl z, D.atKey kl (.held z) = .held ((f kl).getD z)) ∧ ∀ kl, Maps.has D kl = (f kl).isSome
open Classical in
noncomputable def putF (f : Lit → Option Value) (kl : Lit) (v : Value) : Lit → Option Value := fun k => if k = kl then some v else f k
@[go_sem] theorem run_makeMap_raw (t : TypeId) (w : World) : (Instr.makeMap t none).run Tryz.prog w = .ok (.map (some w.heap.size)) (w.alloc (.map #[] 0)) := rfl
theorem ownsMap_tight {w : World} {kt : TypeId} {b n : Nat} {D : DataW Value} (h : w.ownsMap Tryz.prog kt rawR b n D) : w.ownsMap Tryz.prog kt rawR b (Maps.size D) D := by
  obtain ⟨es, clock, h1, h2, -, rfl⟩ := h
  exact ⟨es, clock, h1, h2, by simp [Maps.size, length_sorted], rfl⟩
theorem MapR.made (w : World) (kt : TypeId) : MapR (w.alloc (.map #[] 0)) kt w.heap.size 0 (fun _ => none) :=
  ⟨.map [], World.ownsMap_made _ _ _ _, rfl, fun _ _ => rfl, fun _ => rfl⟩
theorem MapR.mod {w w' : World} {kt : TypeId} {b n : Nat} {f : Lit → Option Value} {F : Nat → Prop} (h : MapR w kt b n f) (hm : Mod F w w') (hF : ¬ F b) : MapR w' kt b n f := by
  obtain ⟨D, ⟨es, clock, h1, h2⟩, h3⟩ := h
  exact ⟨D, ⟨es, clock, hm.heap h1 hF, h2⟩, h3⟩
theorem MapR.lt {w : World} {kt : TypeId} {b n : Nat} {f : Lit → Option Value} (h : MapR w kt b n f) : b < w.heap.size := by
  obtain ⟨D, h1, -⟩ := h
  exact h1.lt
theorem MapR.look {w : World} {kt t e : TypeId} {b n : Nat} {f : Lit → Option Value} (h : MapR w kt b n f) (K : Maps.Keyed Tryz.prog kt) (ht : Tryz.prog.underlying t = some (.map kt e)) {z : Value} (hz : (zeroValue e).run Tryz.prog w = .ok z w) {key : Value} {kl : Lit} (hkey : keyOf Tryz.prog kt key = some kl) :
    (Instr.lookup t (.map (some b)) key false).run Tryz.prog w = .ok ((f kl).getD z) w := by
  obtain ⟨D, h1, -, h3, -⟩ := h
  obtain ⟨v, ps, hrun, hv⟩ := h1.lookup K ht hz (zd := .held z) (zp := []) rfl hkey
  rw [h3] at hv
  simp only [rawR, Option.some.injEq, Prod.mk.injEq, DataW.held.injEq] at hv
  rw [hrun, hv.1]
theorem MapR.look_ok {w : World} {kt t e : TypeId} {b n : Nat} {f : Lit → Option Value} (h : MapR w kt b n f) (K : Maps.Keyed Tryz.prog kt) (ht : Tryz.prog.underlying t = some (.map kt e)) {z : Value} (hz : (zeroValue e).run Tryz.prog w = .ok z w) {key : Value} {kl : Lit} (hkey : keyOf Tryz.prog kt key = some kl) :
    (Instr.lookup t (.map (some b)) key true).run Tryz.prog w = .ok (.tuple #[(f kl).getD z, .bool (f kl).isSome]) w := by
  obtain ⟨D, h1, -, h3, h4⟩ := h
  obtain ⟨v, ps, hrun, hv⟩ := h1.look_ok K ht hz (zd := .held z) (zp := []) rfl hkey
  rw [h3] at hv
  simp only [rawR, Option.some.injEq, Prod.mk.injEq, DataW.held.injEq] at hv
  rw [hrun, hv.1, h4]
theorem MapR.len {w : World} {kt t e : TypeId} {b n : Nat} {f : Lit → Option Value} (h : MapR w kt b n f) (ht : Tryz.prog.underlying t = some (.map kt e)) (ty : TypeId) :
    (Builtin.len_ #[t] ty #[.map (some b)]).run Tryz.prog w = .ok (.int .i64 n) w := by
  obtain ⟨D, h1, h2, -⟩ := h
  rw [h1.len ht ty, h2]
theorem grown_mod {w w' : World} {b : Nat} (h : w.grownBy w' (some b)) : Mod (fun k => k = b) w w' := ⟨h.os, h.tape, h.output, h.size, fun k hk hn => h.block k hk (fun e => hn (Option.some.inj e))⟩
theorem MapR.put {w : World} {kt t e : TypeId} {b n : Nat} {f : Lit → Option Value} (h : MapR w kt b n f) (K : Maps.Keyed Tryz.prog kt) (ht : Tryz.prog.underlying t = some (.map kt e)) (hn : n < maxLen) {key : Value} {kl : Lit} (hkey : keyOf Tryz.prog kt key = some kl) (v : Value) :
    ∃ w', (Instr.mapUpdate t (.map (some b)) key v).run Tryz.prog w = .ok () w' ∧ MapR w' kt b (if (f kl).isSome then n else n + 1) (putF f kl v) ∧ Mod (fun k => k = b) w w' := by
  obtain ⟨D, h1, h2, h3, h4⟩ := h
  obtain ⟨w', hrun, r1, r2⟩ := h1.update K ht hn hkey (val := v) (d := .held v) (ps := []) rfl
  have hs := Maps.size_put (k := kl) (h1.tidy K) (.held v)
  rw [h2, h4] at hs
  refine ⟨w', hrun, ⟨D.put kl (.held v), ?_, hs, fun k z => ?_, fun k => ?_⟩, grown_mod r2⟩
  · rw [← hs]; exact ownsMap_tight r1
  · unfold putF
    by_cases e : k = kl
    · subst e; rw [if_pos rfl, Maps.atKey_put_same h1.isMap (K.key hkey)]; rfl
    · rw [if_neg e, Maps.atKey_put_other e, h3]
  · unfold putF
    by_cases e : k = kl
    · subst e; rw [if_pos rfl, Maps.has_put_same h1.isMap (K.key hkey)]; rfl
    · rw [if_neg e, Maps.has_put_other e, h4]
end Go.Proofs.YtaenebdppkjhoaaGreatDoor

namespace Go.Proofs.YtaenebdppkjhoaaGreatDoor
set_option maxRecDepth 20000
open Go.RowKit Go.Maps Go.Sort

theorem keyed_i : Maps.Keyed Tryz.prog 3 := Maps.int_keyed Tryz.underlying3
theorem keyed_s : Maps.Keyed Tryz.prog 9 := Maps.string_keyed Tryz.underlying9

end Go.Proofs.YtaenebdppkjhoaaGreatDoor

namespace Go.Proofs.YtaenebdppkjhoaaGreatDoor
set_option maxRecDepth 20000
open Go.RowKit

/-- A condition, and whose. -/
def pcell (p : Int × Cnd) : List Value := .int .i64 p.1 :: p.2.cells
def pls (l : List (Int × Cnd)) : List Value := l.flatMap pcell
/-- A filter: its scope, its conditions. -/
abbrev Fil := ByteArray × List Cnd
/-- The filter of a number. -/
def idxF (I : List (Int × Fil)) (id : Int) : Option Fil := (I.find? fun p => p.1 == id).map Prod.snd
/-- A map's value is a filter, whose conditions nobody writes. -/
def FilIs (w : World) (own C : Nat → Prop) : Option Value → Option Fil → Prop
  | none, none => True
  | some v, some q => ∃ a cap, v = .agg #[.string q.1, .slice a q.2.length cap] ∧ OwnSl w 132 7 (.slice a q.2.length cap) q.2.length (cnds q.2) ∧ ∀ k, (Value.slice a q.2.length cap).ownBlock = some k → k < w.heap.size ∧ ¬ own k ∧ C k
  | _, _ => False
/-- The conditions of that name. -/
def ofName (q : Option Fil) (nm : ByteArray) : List Cnd := match q with | some q => q.2.filter fun c => c.name.data.toList == nm.data.toList | none => []
/-- What stands under a name. -/
def Plac (w : World) (own : Nat → Prop) (I : List (Int × Fil)) (T : Nat) (nm : ByteArray) (v : Value) : Prop :=
  ∃ ps : List (Int × Cnd), OwnSl w 181 8 v ps.length (pls ps) ∧ ps.length ≤ T ∧ (∀ k, v.ownBlock = some k → own k) ∧ ∀ id, (ps.filter fun p => p.1 == id).map Prod.snd = ofName (idxF I id) nm
def Lit.str (nm : ByteArray) : Lit := .string nm.data.toList
def nilS : Value := .slice none 0 0
/-- The map of names. -/
def PMap (w : World) (b m1 m2 : Nat) (own : Nat → Prop) (I : List (Int × Fil)) (T : Nat) : Prop :=
  ∃ n f, MapR w 9 m2 n f ∧ n ≤ T ∧ (∀ nm : ByteArray, Plac w own I T nm ((f (Lit.str nm)).getD nilS)) ∧
    (∀ nm k, ((f (Lit.str nm)).getD nilS).ownBlock = some k → k ≠ b ∧ k ≠ m1 ∧ k ≠ m2) ∧ ∀ nm nm' k, ((f (Lit.str nm)).getD nilS).ownBlock = some k → ((f (Lit.str nm')).getD nilS).ownBlock = some k → nm = nm'
/-- The map of filters. -/
def FMap (w : World) (m1 : Nat) (own C : Nat → Prop) (I : List (Int × Fil)) : Prop := ∃ f, MapR w 3 m1 I.length f ∧ ∀ id : Int, FilIs w own C (f (.int .i64 id)) (idxF I id)
/-- An index in memory: its own blocks are those of 'own'; 'T' bounds what it ever held. -/
structure IdxAt (w : World) (b m1 m2 : Nat) (own C : Nat → Prop) (I : List (Int × Fil)) (T : Nat) : Prop where
  row : w.heap[b]? = some (.cells #[.map (some m1), .map (some m2)] 160 (0, 0))
  nd : (I.map Prod.fst).Nodup
  ob : own b ∧ own m1 ∧ own m2
  ne : b ≠ m1 ∧ b ≠ m2 ∧ m1 ≠ m2
  fm : FMap w m1 own C I
  pm : PMap w b m1 m2 own I T
  low : I.length ≤ T
  olow : ∀ k, own k → k < w.heap.size
  clow : ∀ k, C k → k < w.heap.size
  wf : ∀ p ∈ I, (Lit.int .i64 p.1).wf = true ∧ p.2.2.length ≤ 19 ∧ ∀ c ∈ p.2.2, c.fits
  sc : ∀ p ∈ I, p.2.1.size ≤ 1000000
/-- An index. -/
def Idx (w : World) (b : Nat) (own C : Nat → Prop) (I : List (Int × Fil)) (T : Nat) : Prop := ∃ m1 m2, IdxAt w b m1 m2 own C I T

theorem FilIs.mod {w w' : World} {F own C : Nat → Prop} {v : Option Value} {q : Option Fil} (h : FilIs w own C v q) (hm : Mod F w w') (hF : ∀ k, k < w.heap.size → F k → own k) : FilIs w' own C v q := by
  cases v <;> cases q
  · trivial
  · exact h
  · exact h
  · obtain ⟨a, cap, h1, h2, h3⟩ := h
    exact ⟨a, cap, h1, h2.mod hm (fun k hk hf => (h3 k hk).2.1 (hF k (h3 k hk).1 hf)), fun k hk => ⟨Nat.lt_of_lt_of_le (h3 k hk).1 hm.size, (h3 k hk).2⟩⟩
theorem FMap.mod {w w' : World} {m1 : Nat} {F own C : Nat → Prop} {I : List (Int × Fil)} (h : FMap w m1 own C I) (hm : Mod F w w') (h1 : ¬ F m1) (hF : ∀ k, k < w.heap.size → F k → own k) : FMap w' m1 own C I := by
  obtain ⟨f, h2, h3⟩ := h
  exact ⟨f, h2.mod hm h1, fun id => (h3 id).mod hm hF⟩
theorem PMap.mod {w w' : World} {b m1 m2 : Nat} {F own : Nat → Prop} {I : List (Int × Fil)} {T : Nat} (h : PMap w b m1 m2 own I T) (hm : Mod F w w') (h2 : ¬ F m2) (hF : ∀ k, own k → k ≠ b → k ≠ m1 → k ≠ m2 → k < w.heap.size → ¬ F k) : PMap w' b m1 m2 own I T := by
  obtain ⟨n, f2, g1, g2, g3, g4, g5⟩ := h
  refine ⟨n, f2, g1.mod hm h2, g2, fun nm => ?_, g4, g5⟩
  obtain ⟨ps, p1, p2, p3, p4⟩ := g3 nm
  exact ⟨ps, p1.mod hm (fun k hk => hF k (p3 k hk) (g4 nm k hk).1 (g4 nm k hk).2.1 (g4 nm k hk).2.2 (p1.lt k hk)), p2, p3, p4⟩
theorem PMap.cong {w : World} {b m1 m2 : Nat} {own own' : Nat → Prop} {I I' : List (Int × Fil)} {T T' : Nat} (h : PMap w b m1 m2 own I T) (ho : ∀ k, k < w.heap.size → own k → own' k) (hI : ∀ id nm, ofName (idxF I' id) nm = ofName (idxF I id) nm) (hT : T ≤ T') : PMap w b m1 m2 own' I' T' := by
  obtain ⟨n, f2, g1, g2, g3, g4, g5⟩ := h
  refine ⟨n, f2, g1, Nat.le_trans g2 hT, fun nm => ?_, g4, g5⟩
  obtain ⟨ps, p1, p2, p3, p4⟩ := g3 nm
  exact ⟨ps, p1, Nat.le_trans p2 hT, fun k hk => ho k (p1.lt k hk) (p3 k hk), fun id => by rw [hI]; exact p4 id⟩
/-- What is not written stays. -/
theorem IdxAt.mod2 {w w' : World} {b m1 m2 : Nat} {own C F : Nat → Prop} {I : List (Int × Fil)} {T : Nat} (h : IdxAt w b m1 m2 own C I T) (hm : Mod F w w') (hF : ∀ k, k < w.heap.size → F k → ¬ own k ∧ ¬ C k) : IdxAt w' b m1 m2 own C I T := by
  have hn : ∀ k, own k → ¬ F k := fun k hk hf => (hF k (h.olow k hk) hf).1 hk
  refine ⟨hm.heap h.row (hn _ h.ob.1), h.nd, h.ob, h.ne, ?_, h.pm.mod hm (hn _ h.ob.2.2) (fun k hk _ _ _ _ => hn k hk), h.low, fun k hk => Nat.lt_of_lt_of_le (h.olow k hk) hm.size, fun k hk => Nat.lt_of_lt_of_le (h.clow k hk) hm.size, h.wf, h.sc⟩
  obtain ⟨f, h1, h2⟩ := h.fm
  refine ⟨f, h1.mod hm (hn _ h.ob.2.1), fun id => ?_⟩
  have h3 := h2 id
  cases hf : f (.int .i64 id) <;> cases hi : idxF I id <;> rw [hf, hi] at h3
  · trivial
  · exact h3
  · exact h3
  · obtain ⟨a, cap, e1, e2, e3⟩ := h3
    exact ⟨a, cap, e1, e2.mod hm (fun k hk hf => (hF k (e3 k hk).1 hf).2 (e3 k hk).2.2), fun k hk => ⟨Nat.lt_of_lt_of_le (e3 k hk).1 hm.size, (e3 k hk).2⟩⟩
theorem Idx.mod2 {w w' : World} {b : Nat} {own C F : Nat → Prop} {I : List (Int × Fil)} {T : Nat} (h : Idx w b own C I T) (hm : Mod F w w') (hF : ∀ k, k < w.heap.size → F k → ¬ own k ∧ ¬ C k) : Idx w' b own C I T := by
  obtain ⟨m1, m2, h⟩ := h
  exact ⟨m1, m2, h.mod2 hm hF⟩
theorem IdxAt.mod {w w' : World} {b m1 m2 : Nat} {own C F : Nat → Prop} {I : List (Int × Fil)} {T : Nat} (h : IdxAt w b m1 m2 own C I T) (hm : Mod F w w') (hF : ∀ k, k < w.heap.size → ¬ F k) : IdxAt w' b m1 m2 own C I T := h.mod2 hm (fun k hk hf => absurd hf (hF k hk))
theorem Idx.mod {w w' : World} {b : Nat} {own C F : Nat → Prop} {I : List (Int × Fil)} {T : Nat} (h : Idx w b own C I T) (hm : Mod F w w') (hF : ∀ k, k < w.heap.size → ¬ F k) : Idx w' b own C I T := h.mod2 hm (fun k hk hf => absurd hf (hF k hk))
theorem Idx.low {w : World} {b : Nat} {own C : Nat → Prop} {I : List (Int × Fil)} {T : Nat} (h : Idx w b own C I T) : (∀ k, own k → k < w.heap.size) ∧ ∀ k, C k → k < w.heap.size := by
  obtain ⟨m1, m2, h⟩ := h
  exact ⟨h.olow, h.clow⟩

/-- What New leaves. -/
def INewPost (w : World) (e : Ending) (w' : World) : Prop := ∃ b own, e = .returned (.pointer (some ⟨b, 0, none⟩)) ∧ Idx w' b own (fun _ => False) [] 0 ∧ (∀ k, own k → w.heap.size ≤ k ∧ k < w'.heap.size) ∧ Mod (fun _ => False) w w'
set_option maxHeartbeats 1000000 in
theorem inew_at (w : World) : Calls Tryz.prog 43 #[] w (INewPost w) := by
  obtain ⟨wa, hwa⟩ : ∃ wa : World, w.alloc (.map #[] 0) = wa := ⟨_, rfl⟩
  have hmwa : Mod (fun _ => False) w wa := hwa ▸ (Mod.refl (fun _ => False) w).alloc _
  have hgwa := heap_alloc_new w (.map #[] 0)
  rw [hwa] at hgwa
  have hzwa : wa.heap.size = w.heap.size + 1 := by rw [← hwa]; simp
  obtain ⟨wb, hwb⟩ : ∃ wb : World, wa.alloc (.map #[] 0) = wb := ⟨_, rfl⟩
  have hmwb : Mod (fun _ => False) wa wb := hwb ▸ (Mod.refl (fun _ => False) wa).alloc _
  have hgwb := heap_alloc_new wa (.map #[] 0)
  rw [hwb] at hgwb
  have hzwb : wb.heap.size = wa.heap.size + 1 := by rw [← hwb]; simp
  obtain ⟨wc, hwc⟩ : ∃ wc : World, wb.alloc (.cells #[.map (some w.heap.size), .map (some wa.heap.size)] 160) = wc := ⟨_, rfl⟩
  have hmwc : Mod (fun _ => False) wb wc := hwc ▸ (Mod.refl (fun _ => False) wb).alloc _
  have hgwc := heap_alloc_new wb (.cells #[.map (some w.heap.size), .map (some wa.heap.size)] 160)
  rw [hwc] at hgwc
  have hzwc : wc.heap.size = wb.heap.size + 1 := by rw [← hwc]; simp
  have h1 : MapR wc 3 w.heap.size 0 (fun _ => none) := ((hwa ▸ MapR.made w 3 : MapR wa 3 w.heap.size 0 (fun _ => none)).mod hmwb (fun h => h)).mod hmwc (fun h => h)
  have h2 : MapR wc 9 wa.heap.size 0 (fun _ => none) := (hwb ▸ MapR.made wa 9 : MapR wb 9 wa.heap.size 0 (fun _ => none)).mod hmwc (fun h => h)
  have hi : IdxAt wc wb.heap.size w.heap.size wa.heap.size (fun k => k = w.heap.size ∨ k = wa.heap.size ∨ k = wb.heap.size) (fun _ => False) [] 0 :=
    ⟨hgwc, List.nodup_nil, ⟨.inr (.inr rfl), .inl rfl, .inr (.inl rfl)⟩, by omega, ⟨_, h1, fun _ => trivial⟩, ⟨0, _, h2, Nat.le_refl _, fun nm => ⟨[], OwnSl.nil _ _ _, Nat.le_refl _, fun k hk => by simp [nilS, Value.ownBlock] at hk, fun _ => rfl⟩,
      fun nm k hk => by simp [nilS, Value.ownBlock] at hk, fun nm nm' k hk => by simp [nilS, Value.ownBlock] at hk⟩, Nat.le_refl _, fun k hk => by omega, fun _ h => h.elim, fun p hp => (by cases hp), fun p hp => (by cases hp)⟩
  have hm : Mod (fun _ => False) w wc := (hmwa.trans hmwb (fun _ _ h => h)).trans hmwc (fun _ _ h => h)
  have hz : wb.heap.size = w.heap.size + 2 ∧ wa.heap.size = w.heap.size + 1 ∧ wc.heap.size = w.heap.size + 3 := by omega
  have Hwa := Lib.hid hwa
  have Hwb := Lib.hid hwb
  have Hwc := Lib.hid hwc
  have H1 := Lib.hid h1
  have H2 := Lib.hid h2
  have Hi := Lib.hid hi
  have Hm := Lib.hid hm
  have Hgwc := Lib.hid hgwc
  have Hgwa := Lib.hid hgwa
  have Hgwb := Lib.hid hgwb
  have Hz := Lib.hid hz
  clear hwa hwb hwc h1 h2 hi hm hgwc hgwa hgwb hz hmwa hmwb hmwc hzwa hzwb hzwc
  go_enter Tryz.func43, Tryz.ntmps43
  go_wp2_with (first | (rw [show w.alloc _ = wa from Hwa.out]) | (rw [show wa.alloc _ = wb from Hwb.out]) | (rw [show wb.alloc _ = wc from Hwc.out]) | fail)
  go_ret
  refine ⟨wb.heap.size, _, rfl, ⟨_, _, Hi.out⟩, fun k hk => ?_, Hm.out⟩
  have := Hz.out
  rcases hk with rfl | rfl | rfl <;> omega

end Go.Proofs.YtaenebdppkjhoaaGreatDoor

namespace Go.Proofs.YtaenebdppkjhoaaGreatDoor
set_option maxRecDepth 20000
open Go.RowKit

theorem idxF_new {I : List (Int × Fil)} {id : Int} {q : Fil} (h : idxF I id = none) (x : Int) : idxF (I ++ [(id, q)]) x = if x = id then some q else idxF I x := by
  unfold idxF at *
  rw [List.find?_append]
  by_cases hx : x = id
  · subst hx
    rw [if_pos rfl]
    have : I.find? (fun p => p.1 == x) = none := by
      cases hf : I.find? (fun p => p.1 == x) with
      | none => rfl
      | some p => rw [hf] at h; cases h
    rw [this]
    simp
  · rw [if_neg hx]
    cases hf : I.find? (fun p => p.1 == x) with
    | some p => rfl
    | none =>
      have : (id == x) = false := by rw [beq_eq_false_iff_ne]; exact fun e => hx e.symm
      simp [this]
theorem normC_mem {l : List Cnd} {c : Cnd} (h : c ∈ normC l) : c ∈ sortC l := by
  unfold normC keepC at h
  obtain ⟨⟨d, i⟩, h1, h2⟩ := List.mem_filterMap.1 h
  have h3 := (List.mem_zipIdx h1).2.2
  rw [h3] at h2
  simp only at h2
  split at h2
  · cases h2
  · cases h2
    exact List.mem_of_mem_take (List.getElem_mem _)
theorem normC_len (l : List Cnd) : (normC l).length ≤ l.length := by
  unfold normC
  exact keepC_len _ _
theorem normC_fits {l : List Cnd} (hl : ∀ c ∈ l, c.fits) : ∀ c ∈ normC l, c.fits := fun c hc => by
  obtain ⟨d, hd, rfl⟩ := sortC_mem (normC_mem hc)
  exact norm_fits (hl d hd)
theorem zero_pl (w : World) : (zeroValue 179).run Tryz.prog w = .ok nilS w := by kernel_rfl
/-- What a round of Add reads. -/
def AddS (b m2 cb : Nat) (n : Nat) (f : Lit → Option Value) (v : Value) (x : Cnd) (y : World) : Prop :=
  y.cell? ⟨b, 1, none⟩ = some (.map (some m2)) ∧ y.cell? ⟨cb, 0, none⟩ = some (.string x.name) ∧ AllCells y cb 0 7 ∧ cellsOf y cb 0 7 = #[.string x.name, .int .i64 x.op, .int .i64 x.v.kind, .int .i64 x.v.int, .float .f64 x.v.num, .string x.v.text, .bool x.v.yes] ∧
    MapR y 9 m2 n f ∧ (Instr.lookup 158 (.map (some m2)) (.string x.name) false).run Tryz.prog y = .ok v y
theorem AddS.at {y : World} {b m1 m2 cb n : Nat} {f : Lit → Option Value} {v : Value} {x : Cnd} (h1 : y.heap[b]? = some (.cells #[.map (some m1), .map (some m2)] 160 (0, 0))) (h2 : y.heap[cb]? = some (.cells x.cells.toArray 132 (0, 0)))
    (h3 : MapR y 9 m2 n f) (hv : (f (Lit.str x.name)).getD nilS = v) (hx : x.name.size ≤ 1000000) : AddS b m2 cb n f v x y := by
  refine ⟨cell_of h1 rfl, cell_of h2 rfl, (CellsAt.row h2).all rfl, (CellsAt.row h2).is rfl, h3, ?_⟩
  rw [← hv]
  exact h3.look keyed_s Tryz.underlying158 (zero_pl y) (WideMaps.keyOf_string_mk Tryz.underlying9 (by unfold maxLen; omega))

theorem zero_fil (w : World) : (zeroValue 33).run Tryz.prog w = .ok (.agg #[.string ⟨#[]⟩, .slice none 0 0]) w := by kernel_rfl
theorem FMap.put {w w6 : World} {m1 : Nat} {own own' C C' : Nat → Prop} {I : List (Int × Fil)} {f : Lit → Option Value} {id : Int} {v : Value} {q : Fil} (h2 : ∀ id : Int, FilIs w own C (f (.int .i64 id)) (idxF I id)) (hn : idxF I id = none) (h6 : MapR w6 3 m1 (I.length + 1) (putF f (.int .i64 id) v))
    (hm : Mod (fun k => k = m1) w w6) (hm1 : own m1) (hq : FilIs w6 own' C' (some v) (some q)) (ho : ∀ k, k < w.heap.size → own' k → own k) (hC : ∀ k, C k → C' k) : FMap w6 m1 own' C' (I ++ [(id, q)]) := by
  refine ⟨_, by rw [List.length_append]; exact h6, fun x => ?_⟩
  rw [idxF_new hn]
  unfold putF
  by_cases e : x = id
  · rw [if_pos e, if_pos (by rw [e])]; exact hq
  · rw [if_neg e, if_neg (fun h => e (Lit.int.inj h).2)]
    have h3 := (h2 x).mod hm (fun k _ e => e ▸ hm1)
    cases hf : f (.int .i64 x) <;> cases hi : idxF I x <;> rw [hf, hi] at h3
    · trivial
    · exact h3
    · exact h3
    · have h4 := h2 x
      rw [hf, hi] at h4
      obtain ⟨a, cap, e1, -, e3⟩ := h4
      obtain ⟨a', cap', e1', h5, h6⟩ := h3
      rw [e1] at e1'
      cases e1'
      exact ⟨a, cap, e1, h5, fun k hk => ⟨(h6 k hk).1, fun h => (e3 k hk).2.1 (ho k (e3 k hk).1 h), hC k (e3 k hk).2.2⟩⟩

attribute [local go_sem ↓] run_load_cd
end Go.Proofs.YtaenebdppkjhoaaGreatDoor

namespace Go.Proofs.YtaenebdppkjhoaaGreatDoor
set_option maxRecDepth 20000
open Go.RowKit

/-- Block r ranges over the map b, which reads as f; 'left': what is still to come; cnt: how many. -/
def RngR (w : World) (kt : TypeId) (b r : Nat) (f : Lit → Option Value) (left : Lit → Bool) (cnt : Nat) : Prop :=
  ∃ (D : DataW Value) (n : Nat), w.ranges Tryz.prog kt rawR b r n D left cnt ∧ (∀ kl z, D.atKey kl (.held z) = .held ((f kl).getD z)) ∧ ∀ kl, Maps.has D kl = (f kl).isSome
theorem RngR.mod {w w' : World} {kt : TypeId} {b r : Nat} {f : Lit → Option Value} {left : Lit → Bool} {cnt : Nat} {F : Nat → Prop} (h : RngR w kt b r f left cnt) (hm : Mod F w w') (h1 : ¬ F b) (h2 : ¬ F r) : RngR w' kt b r f left cnt := by
  obtain ⟨D, n, ⟨es, clock, since, seen, c0, hb, F', hs, hD, hr, rest⟩, h3⟩ := h
  exact ⟨D, n, ⟨es, clock, since, seen, c0, hm.heap hb h1, F', hs, hD, hm.heap hr h2, rest⟩, h3⟩
theorem RngR.cong {w : World} {kt : TypeId} {b r : Nat} {f : Lit → Option Value} {left left' : Lit → Bool} {cnt : Nat} (h : RngR w kt b r f left cnt) (e : left = left') : RngR w kt b r f left' cnt := e ▸ h
end Go.Proofs.YtaenebdppkjhoaaGreatDoor
