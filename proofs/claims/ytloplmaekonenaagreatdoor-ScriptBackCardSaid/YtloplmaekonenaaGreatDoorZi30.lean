/-
  Maps that the call made, of values as they are: what is looked up, put, struck out and counted.
  The keys of a map that the call made, sorted; ranges over such maps.
  Package index in memory; New, Len.
  Package index: Add.
  slices.DeleteFunc at the index's places.
  Package index: Remove.
  Package index: Match.
  The document's answer for filters: Under, Match, Covers.
  The index's law, in the plain: what Norm leaves asks for the same.
  What is right is small; the names of an event are unlike.
  Plain: what all attributes have, those of a new event have.
  The low sixteen bits.
  Ops as gazettelaw19.tame makes them: plain laws.
  Few rules, and short ones.
-/
import Derived.Test.YtloplmaekonenaaGreatDoorZi1
import Derived.Test.YtloplmaekonenaaGreatDoorChecked
import Derived.Maps.OwnSet
import Derived.Maps.Own
import Derived.Carry
import Derived.Maps.RangeWalk
import Derived.Test.YtloplmaekonenaaGreatDoorZi29
import Derived.Test.YtloplmaekonenaaGreatDoorZi6
import Derived.Test.YtloplmaekonenaaGreatDoorZi26
import Derived.Test.YtloplmaekonenaaGreatDoorZi16
import Derived.Test.YtloplmaekonenaaGreatDoorZi15
import Derived.Test.YtloplmaekonenaaGreatDoorZi2
import Derived.Test.YtloplmaekonenaaGreatDoorZi4
import Derived.Test.YtloplmaekonenaaGreatDoorZi11
namespace Go.Proofs.YtloplmaekonenaaGreatDoor
set_option maxRecDepth 20000
open Go.RowKit
def rawR : Value → Option (DataW Value × List MemPlace) := fun v => some (.held v, [])
def MapR (w : World) (kt : TypeId) (b n : Nat) (f : Lit → Option Value) : Prop :=
  ∃ D : DataW Value, w.ownsMap Tryz.prog kt rawR b n D ∧ Maps.size D = n ∧ (∀ kl z, D.atKey kl (.held z) = .held ((f kl).getD z)) ∧ ∀ kl, Maps.has D kl = (f kl).isSome
open Classical in
noncomputable def putF (f : Lit → Option Value) (kl : Lit) (v : Value) : Lit → Option Value := fun k => if k = kl then some v else f k
@[go_sem] theorem run_makeMap_raw (t : TypeId) (w : World) : (Instr.makeMap t none).run Tryz.prog w = .ok (.map (some w.heap.size)) (w.alloc (.map #[] 0)) := rfl
theorem ownsMap_tight {w : World} {kt : TypeId} {b n : Nat} {D : DataW Value} (h : w.ownsMap Tryz.prog kt rawR b n D) : w.ownsMap Tryz.prog kt rawR b (Maps.size D) D := by
  obtain ⟨es, clock, h1, h2, -, rfl⟩ := h
  exact ⟨es, clock, h1, h2, by simp [Maps.size, length_sorted], rfl⟩
theorem MapR.made (w : World) (kt : TypeId) : MapR (w.alloc (.map #[] 0)) kt w.heap.size 0 (fun _ => none) :=
  ⟨.map [], World.ownsMap_made _ _ _ _, rfl, fun _ _ => rfl, fun _ => rfl⟩
theorem MapR.mod {w w' : World} {kt : TypeId} {b n : Nat} {f : Lit → Option Value} {F : Nat → Prop} (h : MapR w kt b n f) (hm : Mod F w w') (hF : ¬ F b) : MapR w' kt b n f := by
  obtain ⟨D, ⟨es, clock, h1, h2⟩, h3⟩ := h
  exact ⟨D, ⟨es, clock, hm.heap h1 hF, h2⟩, h3⟩
theorem MapR.lt {w : World} {kt : TypeId} {b n : Nat} {f : Lit → Option Value} (h : MapR w kt b n f) : b < w.heap.size := by
  obtain ⟨D, h1, -⟩ := h
  exact h1.lt
theorem MapR.look {w : World} {kt t e : TypeId} {b n : Nat} {f : Lit → Option Value} (h : MapR w kt b n f) (K : Maps.Keyed Tryz.prog kt) (ht : Tryz.prog.underlying t = some (.map kt e)) {z : Value} (hz : (zeroValue e).run Tryz.prog w = .ok z w) {key : Value} {kl : Lit} (hkey : keyOf Tryz.prog kt key = some kl) :
    (Instr.lookup t (.map (some b)) key false).run Tryz.prog w = .ok ((f kl).getD z) w := by
  obtain ⟨D, h1, -, h3, -⟩ := h
  obtain ⟨v, ps, hrun, hv⟩ := h1.lookup K ht hz (zd := .held z) (zp := []) rfl hkey
  rw [h3] at hv
  simp only [rawR, Option.some.injEq, Prod.mk.injEq, DataW.held.injEq] at hv
  rw [hrun, hv.1]
theorem MapR.look_ok {w : World} {kt t e : TypeId} {b n : Nat} {f : Lit → Option Value} (h : MapR w kt b n f) (K : Maps.Keyed Tryz.prog kt) (ht : Tryz.prog.underlying t = some (.map kt e)) {z : Value} (hz : (zeroValue e).run Tryz.prog w = .ok z w) {key : Value} {kl : Lit} (hkey : keyOf Tryz.prog kt key = some kl) :
    (Instr.lookup t (.map (some b)) key true).run Tryz.prog w = .ok (.tuple #[(f kl).getD z, .bool (f kl).isSome]) w := by
  obtain ⟨D, h1, -, h3, h4⟩ := h
  obtain ⟨v, ps, hrun, hv⟩ := h1.look_ok K ht hz (zd := .held z) (zp := []) rfl hkey
  rw [h3] at hv
  simp only [rawR, Option.some.injEq, Prod.mk.injEq, DataW.held.injEq] at hv
  rw [hrun, hv.1, h4]
theorem MapR.len {w : World} {kt t e : TypeId} {b n : Nat} {f : Lit → Option Value} (h : MapR w kt b n f) (ht : Tryz.prog.underlying t = some (.map kt e)) (ty : TypeId) :
    (Builtin.len_ #[t] ty #[.map (some b)]).run Tryz.prog w = .ok (.int .i64 n) w := by
  obtain ⟨D, h1, h2, -⟩ := h
  rw [h1.len ht ty, h2]
theorem grown_mod {w w' : World} {b : Nat} (h : w.grownBy w' (some b)) : Mod (fun k => k = b) w w' := ⟨h.os, h.tape, h.output, h.size, fun k hk hn => h.block k hk (fun e => hn (Option.some.inj e))⟩
theorem MapR.put {w : World} {kt t e : TypeId} {b n : Nat} {f : Lit → Option Value} (h : MapR w kt b n f) (K : Maps.Keyed Tryz.prog kt) (ht : Tryz.prog.underlying t = some (.map kt e)) (hn : n < maxLen) {key : Value} {kl : Lit} (hkey : keyOf Tryz.prog kt key = some kl) (v : Value) :
    ∃ w', (Instr.mapUpdate t (.map (some b)) key v).run Tryz.prog w = .ok () w' ∧ MapR w' kt b (if (f kl).isSome then n else n + 1) (putF f kl v) ∧ Mod (fun k => k = b) w w' := by
  obtain ⟨D, h1, h2, h3, h4⟩ := h
  obtain ⟨w', hrun, r1, r2⟩ := h1.update K ht hn hkey (val := v) (d := .held v) (ps := []) rfl
  have hs := Maps.size_put (k := kl) (h1.tidy K) (.held v)
  rw [h2, h4] at hs
  refine ⟨w', hrun, ⟨D.put kl (.held v), ?_, hs, fun k z => ?_, fun k => ?_⟩, grown_mod r2⟩
  · rw [← hs]; exact ownsMap_tight r1
  · unfold putF
    by_cases e : k = kl
    · subst e; rw [if_pos rfl, Maps.atKey_put_same h1.isMap (K.key hkey)]; rfl
    · rw [if_neg e, Maps.atKey_put_other e, h3]
  · unfold putF
    by_cases e : k = kl
    · subst e; rw [if_pos rfl, Maps.has_put_same h1.isMap (K.key hkey)]; rfl
    · rw [if_neg e, Maps.has_put_other e, h4]
end Go.Proofs.YtloplmaekonenaaGreatDoor
namespace Go.Proofs.YtloplmaekonenaaGreatDoor
set_option maxRecDepth 20000
open Go.RowKit Go.Maps Go.Sort
theorem keyed_i : Maps.Keyed Tryz.prog 3 := Maps.int_keyed Tryz.underlying3
theorem keyed_s : Maps.Keyed Tryz.prog 9 := Maps.string_keyed Tryz.underlying9
end Go.Proofs.YtloplmaekonenaaGreatDoor
namespace Go.Proofs.YtloplmaekonenaaGreatDoor
set_option maxRecDepth 20000
open Go.RowKit
def pcell (p : Int × Cnd) : List Value := .int .i64 p.1 :: p.2.cells
def pls (l : List (Int × Cnd)) : List Value := l.flatMap pcell
abbrev Fil := ByteArray × List Cnd
def idxF (I : List (Int × Fil)) (id : Int) : Option Fil := (I.find? fun p => p.1 == id).map Prod.snd
def FilIs (w : World) (own C : Nat → Prop) : Option Value → Option Fil → Prop
  | none, none => True
  | some v, some q => ∃ a cap, v = .agg #[.string q.1, .slice a q.2.length cap] ∧ OwnSl w 81 7 (.slice a q.2.length cap) q.2.length (cnds q.2) ∧ ∀ k, (Value.slice a q.2.length cap).ownBlock = some k → k < w.heap.size ∧ ¬ own k ∧ C k
  | _, _ => False
def ofName (q : Option Fil) (nm : ByteArray) : List Cnd := match q with | some q => q.2.filter fun c => c.name.data.toList == nm.data.toList | none => []
def Plac (w : World) (own : Nat → Prop) (I : List (Int × Fil)) (T : Nat) (nm : ByteArray) (v : Value) : Prop :=
  ∃ ps : List (Int × Cnd), OwnSl w 85 8 v ps.length (pls ps) ∧ ps.length ≤ T ∧ (∀ k, v.ownBlock = some k → own k) ∧ ∀ id, (ps.filter fun p => p.1 == id).map Prod.snd = ofName (idxF I id) nm
def Lit.str (nm : ByteArray) : Lit := .string nm.data.toList
def nilS : Value := .slice none 0 0
def PMap (w : World) (b m1 m2 : Nat) (own : Nat → Prop) (I : List (Int × Fil)) (T : Nat) : Prop :=
  ∃ n f, MapR w 9 m2 n f ∧ n ≤ T ∧ (∀ nm : ByteArray, Plac w own I T nm ((f (Lit.str nm)).getD nilS)) ∧
    (∀ nm k, ((f (Lit.str nm)).getD nilS).ownBlock = some k → k ≠ b ∧ k ≠ m1 ∧ k ≠ m2) ∧ ∀ nm nm' k, ((f (Lit.str nm)).getD nilS).ownBlock = some k → ((f (Lit.str nm')).getD nilS).ownBlock = some k → nm = nm'
def FMap (w : World) (m1 : Nat) (own C : Nat → Prop) (I : List (Int × Fil)) : Prop := ∃ f, MapR w 3 m1 I.length f ∧ ∀ id : Int, FilIs w own C (f (.int .i64 id)) (idxF I id)
structure IdxAt (w : World) (b m1 m2 : Nat) (own C : Nat → Prop) (I : List (Int × Fil)) (T : Nat) : Prop where
  row : w.heap[b]? = some (.cells #[.map (some m1), .map (some m2)] 76 (0, 0))
  nd : (I.map Prod.fst).Nodup
  ob : own b ∧ own m1 ∧ own m2
  ne : b ≠ m1 ∧ b ≠ m2 ∧ m1 ≠ m2
  fm : FMap w m1 own C I
  pm : PMap w b m1 m2 own I T
  low : I.length ≤ T
  olow : ∀ k, own k → k < w.heap.size
  clow : ∀ k, C k → k < w.heap.size
  wf : ∀ p ∈ I, (Lit.int .i64 p.1).wf = true ∧ p.2.2.length ≤ 19 ∧ ∀ c ∈ p.2.2, c.fits
  sc : ∀ p ∈ I, p.2.1.size ≤ 1000000
def Idx (w : World) (b : Nat) (own C : Nat → Prop) (I : List (Int × Fil)) (T : Nat) : Prop := ∃ m1 m2, IdxAt w b m1 m2 own C I T
theorem FilIs.mod {w w' : World} {F own C : Nat → Prop} {v : Option Value} {q : Option Fil} (h : FilIs w own C v q) (hm : Mod F w w') (hF : ∀ k, k < w.heap.size → F k → own k) : FilIs w' own C v q := by
  cases v <;> cases q
  · trivial
  · exact h
  · exact h
  · obtain ⟨a, cap, h1, h2, h3⟩ := h
    exact ⟨a, cap, h1, h2.mod hm (fun k hk hf => (h3 k hk).2.1 (hF k (h3 k hk).1 hf)), fun k hk => ⟨Nat.lt_of_lt_of_le (h3 k hk).1 hm.size, (h3 k hk).2⟩⟩
theorem FMap.mod {w w' : World} {m1 : Nat} {F own C : Nat → Prop} {I : List (Int × Fil)} (h : FMap w m1 own C I) (hm : Mod F w w') (h1 : ¬ F m1) (hF : ∀ k, k < w.heap.size → F k → own k) : FMap w' m1 own C I := by
  obtain ⟨f, h2, h3⟩ := h
  exact ⟨f, h2.mod hm h1, fun id => (h3 id).mod hm hF⟩
theorem PMap.mod {w w' : World} {b m1 m2 : Nat} {F own : Nat → Prop} {I : List (Int × Fil)} {T : Nat} (h : PMap w b m1 m2 own I T) (hm : Mod F w w') (h2 : ¬ F m2) (hF : ∀ k, own k → k ≠ b → k ≠ m1 → k ≠ m2 → k < w.heap.size → ¬ F k) : PMap w' b m1 m2 own I T := by
  obtain ⟨n, f2, g1, g2, g3, g4, g5⟩ := h
  refine ⟨n, f2, g1.mod hm h2, g2, fun nm => ?_, g4, g5⟩
  obtain ⟨ps, p1, p2, p3, p4⟩ := g3 nm
  exact ⟨ps, p1.mod hm (fun k hk => hF k (p3 k hk) (g4 nm k hk).1 (g4 nm k hk).2.1 (g4 nm k hk).2.2 (p1.lt k hk)), p2, p3, p4⟩
theorem IdxAt.mod2 {w w' : World} {b m1 m2 : Nat} {own C F : Nat → Prop} {I : List (Int × Fil)} {T : Nat} (h : IdxAt w b m1 m2 own C I T) (hm : Mod F w w') (hF : ∀ k, k < w.heap.size → F k → ¬ own k ∧ ¬ C k) : IdxAt w' b m1 m2 own C I T := by
  have hn : ∀ k, own k → ¬ F k := fun k hk hf => (hF k (h.olow k hk) hf).1 hk
  refine ⟨hm.heap h.row (hn _ h.ob.1), h.nd, h.ob, h.ne, ?_, h.pm.mod hm (hn _ h.ob.2.2) (fun k hk _ _ _ _ => hn k hk), h.low, fun k hk => Nat.lt_of_lt_of_le (h.olow k hk) hm.size, fun k hk => Nat.lt_of_lt_of_le (h.clow k hk) hm.size, h.wf, h.sc⟩
  obtain ⟨f, h1, h2⟩ := h.fm
  refine ⟨f, h1.mod hm (hn _ h.ob.2.1), fun id => ?_⟩
  have h3 := h2 id
  cases hf : f (.int .i64 id) <;> cases hi : idxF I id <;> rw [hf, hi] at h3
  · trivial
  · exact h3
  · exact h3
  · obtain ⟨a, cap, e1, e2, e3⟩ := h3
    exact ⟨a, cap, e1, e2.mod hm (fun k hk hf => (hF k (e3 k hk).1 hf).2 (e3 k hk).2.2), fun k hk => ⟨Nat.lt_of_lt_of_le (e3 k hk).1 hm.size, (e3 k hk).2⟩⟩
theorem Idx.mod2 {w w' : World} {b : Nat} {own C F : Nat → Prop} {I : List (Int × Fil)} {T : Nat} (h : Idx w b own C I T) (hm : Mod F w w') (hF : ∀ k, k < w.heap.size → F k → ¬ own k ∧ ¬ C k) : Idx w' b own C I T := by
  obtain ⟨m1, m2, h⟩ := h
  exact ⟨m1, m2, h.mod2 hm hF⟩
theorem IdxAt.mod {w w' : World} {b m1 m2 : Nat} {own C F : Nat → Prop} {I : List (Int × Fil)} {T : Nat} (h : IdxAt w b m1 m2 own C I T) (hm : Mod F w w') (hF : ∀ k, k < w.heap.size → ¬ F k) : IdxAt w' b m1 m2 own C I T := h.mod2 hm (fun k hk hf => absurd hf (hF k hk))
theorem Idx.mod {w w' : World} {b : Nat} {own C F : Nat → Prop} {I : List (Int × Fil)} {T : Nat} (h : Idx w b own C I T) (hm : Mod F w w') (hF : ∀ k, k < w.heap.size → ¬ F k) : Idx w' b own C I T := h.mod2 hm (fun k hk hf => absurd hf (hF k hk))
theorem Idx.low {w : World} {b : Nat} {own C : Nat → Prop} {I : List (Int × Fil)} {T : Nat} (h : Idx w b own C I T) : (∀ k, own k → k < w.heap.size) ∧ ∀ k, C k → k < w.heap.size := by
  obtain ⟨m1, m2, h⟩ := h
  exact ⟨h.olow, h.clow⟩
end Go.Proofs.YtloplmaekonenaaGreatDoor
namespace Go.Proofs.YtloplmaekonenaaGreatDoor
set_option maxRecDepth 20000
open Go.RowKit
theorem idxF_new {I : List (Int × Fil)} {id : Int} {q : Fil} (h : idxF I id = none) (x : Int) : idxF (I ++ [(id, q)]) x = if x = id then some q else idxF I x := by
  unfold idxF at *
  rw [List.find?_append]
  by_cases hx : x = id
  · subst hx
    rw [if_pos rfl]
    have : I.find? (fun p => p.1 == x) = none := by
      cases hf : I.find? (fun p => p.1 == x) with
      | none => rfl
      | some p => rw [hf] at h; cases h
    rw [this]
    simp
  · rw [if_neg hx]
    cases hf : I.find? (fun p => p.1 == x) with
    | some p => rfl
    | none =>
      have : (id == x) = false := by rw [beq_eq_false_iff_ne]; exact fun e => hx e.symm
      simp [this]
theorem normC_mem {l : List Cnd} {c : Cnd} (h : c ∈ normC l) : c ∈ sortC l := by
  unfold normC keepC at h
  obtain ⟨⟨d, i⟩, h1, h2⟩ := List.mem_filterMap.1 h
  have h3 := (List.mem_zipIdx h1).2.2
  rw [h3] at h2
  simp only at h2
  split at h2
  · cases h2
  · cases h2
    exact List.mem_of_mem_take (List.getElem_mem _)
theorem normC_len (l : List Cnd) : (normC l).length ≤ l.length := by
  unfold normC
  exact keepC_len _ _
theorem zero_pl (w : World) : (zeroValue 82).run Tryz.prog w = .ok nilS w := by kernel_rfl
def AddS (b m2 cb : Nat) (n : Nat) (f : Lit → Option Value) (v : Value) (x : Cnd) (y : World) : Prop :=
  y.cell? ⟨b, 1, none⟩ = some (.map (some m2)) ∧ y.cell? ⟨cb, 0, none⟩ = some (.string x.name) ∧ AllCells y cb 0 7 ∧ cellsOf y cb 0 7 = #[.string x.name, .int .i64 x.op, .int .i64 x.v.kind, .int .i64 x.v.int, .float .f64 x.v.num, .string x.v.text, .bool x.v.yes] ∧
    MapR y 9 m2 n f ∧ (Instr.lookup 74 (.map (some m2)) (.string x.name) false).run Tryz.prog y = .ok v y
theorem AddS.at {y : World} {b m1 m2 cb n : Nat} {f : Lit → Option Value} {v : Value} {x : Cnd} (h1 : y.heap[b]? = some (.cells #[.map (some m1), .map (some m2)] 76 (0, 0))) (h2 : y.heap[cb]? = some (.cells x.cells.toArray 81 (0, 0)))
    (h3 : MapR y 9 m2 n f) (hv : (f (Lit.str x.name)).getD nilS = v) (hx : x.name.size ≤ 1000000) : AddS b m2 cb n f v x y := by
  refine ⟨cell_of h1 rfl, cell_of h2 rfl, (CellsAt.row h2).all rfl, (CellsAt.row h2).is rfl, h3, ?_⟩
  rw [← hv]
  exact h3.look keyed_s Tryz.underlying74 (zero_pl y) (WideMaps.keyOf_string_mk Tryz.underlying9 (by unfold maxLen; omega))
theorem zero_fil (w : World) : (zeroValue 29).run Tryz.prog w = .ok (.agg #[.string ⟨#[]⟩, .slice none 0 0]) w := by kernel_rfl
theorem FMap.put {w w6 : World} {m1 : Nat} {own own' C C' : Nat → Prop} {I : List (Int × Fil)} {f : Lit → Option Value} {id : Int} {v : Value} {q : Fil} (h2 : ∀ id : Int, FilIs w own C (f (.int .i64 id)) (idxF I id)) (hn : idxF I id = none) (h6 : MapR w6 3 m1 (I.length + 1) (putF f (.int .i64 id) v))
    (hm : Mod (fun k => k = m1) w w6) (hm1 : own m1) (hq : FilIs w6 own' C' (some v) (some q)) (ho : ∀ k, k < w.heap.size → own' k → own k) (hC : ∀ k, C k → C' k) : FMap w6 m1 own' C' (I ++ [(id, q)]) := by
  refine ⟨_, by rw [List.length_append]; exact h6, fun x => ?_⟩
  rw [idxF_new hn]
  unfold putF
  by_cases e : x = id
  · rw [if_pos e, if_pos (by rw [e])]; exact hq
  · rw [if_neg e, if_neg (fun h => e (Lit.int.inj h).2)]
    have h3 := (h2 x).mod hm (fun k _ e => e ▸ hm1)
    cases hf : f (.int .i64 x) <;> cases hi : idxF I x <;> rw [hf, hi] at h3
    · trivial
    · exact h3
    · exact h3
    · have h4 := h2 x
      rw [hf, hi] at h4
      obtain ⟨a, cap, e1, -, e3⟩ := h4
      obtain ⟨a', cap', e1', h5, h6⟩ := h3
      rw [e1] at e1'
      cases e1'
      exact ⟨a, cap, e1, h5, fun k hk => ⟨(h6 k hk).1, fun h => (e3 k hk).2.1 (ho k (e3 k hk).1 h), hC k (e3 k hk).2.2⟩⟩
attribute [local go_sem ↓] run_load_cd
end Go.Proofs.YtloplmaekonenaaGreatDoor
namespace Go.Proofs.YtloplmaekonenaaGreatDoor
set_option maxRecDepth 20000
open Go.RowKit
theorem pl_struct : (match Tryz.prog.underlying 85 with | some (.struct _) => true | some (.array _ _) => true | _ => false) = true := by kernel_rfl
theorem pl_size : (Tryz.prog.info? 85).map (·.size) = some 8 := by kernel_rfl
theorem run_load_pl {ρ : Operand → Value} {dst : Option Tmp} {x : Operand} {type : TypeId} {pos : String} {after : Array Edge} {guard : Option (Nat × Bool)} {w : World} (h : AllV w (ρ x) 8) :
    Sem.run Tryz.prog (execOp ρ ⟨dst, .load 85 x, type, pos, after, guard⟩) w = .ok (.value (.agg (cellsV w (ρ x) 8))) w := run_load_all pl_struct pl_size h
attribute [local go_sem ↓] run_load_pl
end Go.Proofs.YtloplmaekonenaaGreatDoor
namespace Go.Proofs.YtloplmaekonenaaGreatDoor
set_option maxRecDepth 20000
open Go.RowKit
def RemS (b m1 cb n : Nat) (id : Int) (f : Lit → Option Value) (r : Value) (y : World) : Prop :=
  y.cell? ⟨b, 0, none⟩ = some (.map (some m1)) ∧ y.cell? ⟨cb, 0, none⟩ = some (.int .i64 id) ∧ MapR y 3 m1 n f ∧ (Instr.lookup 26 (.map (some m1)) (.int .i64 id) true).run Tryz.prog y = .ok r y
theorem RemS.mod {b m1 cb n : Nat} {id : Int} {f : Lit → Option Value} {r : Value} {y z : World} {F : Nat → Prop} (h : RemS b m1 cb n id f r y) (hid : (Lit.int .i64 id).wf = true) (hr : r = .tuple #[(f (.int .i64 id)).getD (.agg #[.string ⟨#[]⟩, .slice none 0 0]), .bool (f (.int .i64 id)).isSome])
    (hm : Mod F y z) (h1 : ¬ F b) (h2 : ¬ F cb) (h3 : ¬ F m1) : RemS b m1 cb n id f r z := by
  refine ⟨hm.cell h.1 h1, hm.cell h.2.1 h2, h.2.2.1.mod hm h3, ?_⟩
  rw [hr]
  exact (h.2.2.1.mod hm h3).look_ok keyed_i Tryz.underlying26 (zero_fil z) (Maps.keyOf_int_mk Tryz.underlying3 hid)
attribute [local go_sem ↓] run_load_cd
end Go.Proofs.YtloplmaekonenaaGreatDoor
namespace Go.Proofs.YtloplmaekonenaaGreatDoor
set_option maxRecDepth 20000
open Go.RowKit
def CntR (w : World) (mc K : Nat) (g : Int → Nat) : Prop := ∃ n f, MapR w 3 mc n f ∧ n ≤ K ∧ (∀ id : Int, (f (.int .i64 id)).getD (.int .i64 0) = .int .i64 (g id)) ∧ ∀ id, g id ≤ K
theorem CntR.mod {w w' : World} {mc K : Nat} {g : Int → Nat} {F : Nat → Prop} (h : CntR w mc K g) (hm : Mod F w w') (hF : ¬ F mc) : CntR w' mc K g := by
  obtain ⟨n, f, h1, h2⟩ := h
  exact ⟨n, f, h1.mod hm hF, h2⟩
theorem CellsAt.part {w : World} {g off : Nat} {l m : List Value} (h : CellsAt w g off (l ++ m)) {n : Nat} (hn : l.length = n) : CellsAt w g (off + n) m := fun j u hu => by
  have := h (n + j) u (by rw [List.getElem?_append_right (by omega), ← hn, Nat.add_sub_cancel_left]; exact hu)
  rwa [← Nat.add_assoc] at this
attribute [local go_sem ↓] run_load_cd
end Go.Proofs.YtloplmaekonenaaGreatDoor
namespace Go.Proofs.YtloplmaekonenaaGreatDoor
set_option maxRecDepth 20000
open Go.RowKit
theorem cond_struct : (match Tryz.prog.underlying 81 with | some (.struct _) => true | some (.array _ _) => true | _ => false) = true := by kernel_rfl
theorem run_load_cnd {ρ : Operand → Value} {dst : Option Tmp} {x : Operand} {type : TypeId} {pos : String} {after : Array Edge} {guard : Option (Nat × Bool)} {w : World} (h : AllV w (ρ x) 7) :
    Sem.run Tryz.prog (execOp ρ ⟨dst, .load 81 x, type, pos, after, guard⟩) w = .ok (.value (.agg (cellsV w (ρ x) 7))) w := run_load_all cond_struct cnd_size h
attribute [local go_sem ↓] run_load_cnd
end Go.Proofs.YtloplmaekonenaaGreatDoor
namespace Go.Proofs.YtloplmaekonenaaGreatDoor
set_option maxRecDepth 20000
open Go.RowKit
theorem canon_kind {v : V} (h : 0 ≤ v.kind ∧ v.kind ≤ 3) : v.canon.kind = v.kind := by
  unfold V.canon
  split
  · rename_i h; exact h.symm
  · split
    · rename_i h; exact h.symm
    · split
      · rename_i h; exact h.symm
      · split
        · rename_i h; exact h.symm
        · omega
structure Cnd.whole (c : Cnd) : Prop where
  op : 0 ≤ c.op ∧ c.op ≤ 7
  kind : 0 ≤ c.v.kind ∧ c.v.kind ≤ 3
  num : c.v.num < 2 ^ 64
end Go.Proofs.YtloplmaekonenaaGreatDoor
namespace Go.Proofs.YtloplmaekonenaaGreatDoor
set_option maxRecDepth 20000
open Go.RowKit
theorem nm_size {s : ByteArray} (h : isName s = true) : s.size ≤ 12 := by
  unfold isName at h
  simp only [Bool.and_eq_true, decide_eq_true_eq] at h
  exact h.2.2
theorem ev_each {l : List Att} (h : evRight l = true) {a : Att} (ha : a ∈ l) : isName a.name = true ∧ a.v.right = true := by
  unfold evRight at h
  simp only [Bool.and_eq_true, List.all_eq_true, decide_eq_true_eq] at h
  obtain ⟨k, hk⟩ := List.mem_iff_getElem?.1 ha
  have := h.1 k (List.mem_range.2 (List.getElem?_eq_some_iff.1 hk).1)
  unfold okAt at this
  rw [hk] at this
  simp only [Bool.and_eq_true] at this
  exact ⟨this.1.1.1, this.1.1.2⟩
theorem cut_sz (s : ByteArray) : s.size ≤ (cutS s).1.size + 1 + (cutS s).2.1.size := by
  unfold cutS
  split
  · simp only [ByteArray.size_extract]
    omega
  · show s.size ≤ s.size + 1 + _
    omega
theorem scN_size : ∀ (f : Nat) (s : ByteArray) (k : Nat), scN f s = some k → s.size ≤ 13 * k
  | 0, s, k, h => by cases h
  | f + 1, s, k, h => by
    rw [scN_succ] at h
    have hc := cut_sz s
    by_cases h1 : isName (cutS s).1 = true
    · rw [if_pos h1] at h
      have hn := nm_size h1
      by_cases h2 : (cutS s).2.2 = true
      · rw [if_pos h2] at h
        cases h3 : scN f (cutS s).2.1 with
        | none => rw [h3] at h; cases h
        | some k' =>
          rw [h3] at h
          have h4 : k' + 1 = k := by simpa using h
          have := scN_size f _ k' h3
          omega
      · rw [if_neg h2] at h
        have h4 : (cutS s).1 = s := by
          unfold cutS at h2 ⊢
          split
          · rename_i h5; rw [if_pos h5] at h2; exact absurd rfl h2
          · rfl
        rw [h4] at hn
        have h4 : 1 = k := by simpa using h
        omega
    · rw [if_neg h1] at h; cases h
theorem scRight_size {s : ByteArray} (h : scRight s = true) : s.size ≤ 52 := by
  unfold scRight at h
  rw [Bool.or_eq_true] at h
  rcases h with h | h
  · rw [List.isEmpty_iff, ByteArray.toList_eq] at h
    have : s.size = s.data.toList.length := by rw [Array.length_toList]; rfl
    rw [this, h]
    exact Nat.zero_le _
  · unfold scM at h
    cases h1 : scN (s.size + 1) s with
    | none => rw [h1] at h; cases h
    | some k =>
      rw [h1] at h
      have := scN_size _ _ _ h1
      simp only [decide_eq_true_eq] at h
      omega
theorem fil_bounds {sc : ByteArray} {l : List Cnd} (h : filRight sc l = true) : sc.size ≤ 52 ∧ l.length ≤ 6 ∧ ∀ c ∈ l, c.name.size ≤ 12 ∧ (0 ≤ c.op ∧ c.op ≤ 7) ∧ (0 ≤ c.v.kind ∧ c.v.kind ≤ 3) ∧ c.v.text.size ≤ 40 := by
  unfold filRight at h
  simp only [Bool.and_eq_true, List.all_eq_true, decide_eq_true_eq] at h
  refine ⟨scRight_size h.2.1, h.2.2, fun c hc => ?_⟩
  have h1 := h.1 c hc
  unfold Cnd.rightB V.right at h1
  simp only [Bool.and_eq_true, decide_eq_true_eq] at h1
  exact ⟨nm_size h1.1, ⟨h1.2.1, h1.2.2.1⟩, ⟨h1.2.2.2.1, h1.2.2.2.2.1⟩, h1.2.2.2.2.2⟩
theorem ev7_small {l : List Att} {a : Att} (h : a ∈ ev7L l) : a.name.size ≤ 12 ∧ a.v.text.size ≤ 40 := by
  have h1 := (List.mem_filter.1 (List.mem_of_mem_take h)).2
  have h2 := ev_each h1 (List.mem_singleton.2 rfl)
  refine ⟨nm_size h2.1, ?_⟩
  have h3 := h2.2
  unfold V.right at h3
  simp only [Bool.and_eq_true, decide_eq_true_eq] at h3
  exact h3.2.2
theorem ev7_len (l : List Att) : (ev7L l).length ≤ 8 := by
  unfold ev7L
  rw [List.length_take]
  omega
theorem ev7S_size {s : ByteArray} : (ev7S s).size ≤ 52 := by
  unfold ev7S
  split
  · rename_i h; exact scRight_size h
  · exact Nat.zero_le _
end Go.Proofs.YtloplmaekonenaaGreatDoor
namespace Go.Proofs.YtloplmaekonenaaGreatDoor
set_option maxRecDepth 20000
open Go.RowKit
theorem newL_memb {p : Att → Prop} (l : List Att) (h : ∀ a ∈ l, p a.canon) : ∀ a ∈ newL l, p a := by
  unfold newL
  suffices ∀ (l acc : List Att), (∀ a ∈ l, p a.canon) → (∀ a ∈ acc, p a) → ∀ a ∈ l.foldl (fun acc a => putA acc a.canon) acc, p a from this l [] h (by simp)
  intro l
  induction l with
  | nil => intro acc _ h; exact h
  | cons a l ih =>
    intro acc h1 h2
    refine ih _ (fun b hb => h1 b (by simp [hb])) fun b hb => ?_
    have ha := h1 a (by simp)
    have hb : b ∈ putA acc a.canon := hb
    unfold putA at hb
    split at hb
    · rcases List.mem_append.1 hb with hb | hb
      · exact h2 b (List.mem_of_mem_take hb)
      · rcases List.mem_cons.1 hb with rfl | hb
        · exact ha
        · exact h2 b (List.mem_of_mem_drop hb)
    · rcases List.mem_append.1 hb with hb | hb
      · exact h2 b (List.mem_of_mem_take hb)
      · rcases List.mem_cons.1 hb with rfl | hb
        · exact ha
        · exact h2 b (List.mem_of_mem_drop hb)
theorem newL_bound {l : List Att} {K : Nat} {x : Att} (hx : x ∈ newL l) (h : ∀ a ∈ l, a.name.size ≤ K) : x.name.size ≤ K := newL_memb (p := fun a => a.name.size ≤ K) l (fun a ha => h a ha) x hx
end Go.Proofs.YtloplmaekonenaaGreatDoor
namespace Go.Proofs.YtloplmaekonenaaGreatDoor
set_option maxRecDepth 20000
open Go.RowKit
theorem andp_pow (n : Int) (k : Nat) (hk : k < 63) : bits .and .i64 n ((2 ^ k - 1 : Nat) : Int) = n % ((2 ^ k : Nat) : Int) := by
  have hp : 2 ^ k < 2 ^ 63 := Nat.pow_lt_pow_right (by decide) hk
  have hp0 : 0 < 2 ^ k := Nat.two_pow_pos k
  have h127 : (BitVec.ofInt 64 ((2 ^ k - 1 : Nat) : Int)).toNat = 2 ^ k - 1 := by
    rw [BitVec.toNat_ofInt]
    omega
  have key : (BitVec.ofInt 64 n &&& BitVec.ofInt 64 ((2 ^ k - 1 : Nat) : Int)).toNat = (n % ((2 ^ 64 : Nat) : Int)).toNat % 2 ^ k := by
    rw [BitVec.toNat_and, BitVec.toNat_ofInt, h127, Nat.and_two_pow_sub_one_eq_mod]
  show IntKind.i64.wrap ((BitVec.ofInt 64 n &&& BitVec.ofInt 64 ((2 ^ k - 1 : Nat) : Int)).toNat : Nat) = n % ((2 ^ k : Nat) : Int)
  rw [key, IntKind.wrap_i64]
  have h1 : (n % ((2 ^ 64 : Nat) : Int)).toNat % 2 ^ k < 2 ^ k := Nat.mod_lt _ hp0
  have h2 : (((n % ((2 ^ 64 : Nat) : Int)).toNat % 2 ^ k : Nat) : Int) = n % ((2 ^ k : Nat) : Int) := by
    rw [Int.natCast_emod, Int.toNat_of_nonneg (Int.emod_nonneg _ (by decide))]
    exact Int.emod_emod_of_dvd n (by exact_mod_cast Nat.pow_dvd_pow 2 (by omega))
  rw [← h2]
  generalize (n % ((2 ^ 64 : Nat) : Int)).toNat % 2 ^ k = q at *
  omega
end Go.Proofs.YtloplmaekonenaaGreatDoor
namespace Go.Proofs.YtloplmaekonenaaGreatDoor
set_option maxRecDepth 20000
open Go.RowKit
theorem and_7 (n : Int) : ∃ t : Nat, bits .and .i64 n 7 = t ∧ t < 8 := ⟨(n % 8).toNat, by
  have := andp_pow n 3 (by decide)
  have e : bits .and .i64 n 7 = n % 8 := this
  rw [e]
  omega⟩
theorem and_3 (n : Int) : ∃ t : Nat, bits .and .i64 n 3 = t ∧ t < 4 := ⟨(n % 4).toNat, by
  have := andp_pow n 2 (by decide)
  have e : bits .and .i64 n 3 = n % 4 := this
  rw [e]
  omega⟩
theorem and_127 (n : Int) : ∃ t : Nat, bits .and .i64 n 127 = t ∧ t < 128 := ⟨(n % 128).toNat, by
  have := andp_pow n 7 (by decide)
  have e : bits .and .i64 n 127 = n % 128 := this
  rw [e]
  omega⟩
theorem and_255 (n : Int) : ∃ t : Nat, bits .and .i64 n 255 = t ∧ t < 256 := ⟨(n % 256).toNat, by
  have := andp_pow n 8 (by decide)
  have e : bits .and .i64 n 255 = n % 256 := this
  rw [e]
  omega⟩
theorem ev7_right (L : List Att) : evRight (ev7L L) = true := by
  have hr := rises_pair.1 (ev7L_rises L)
  have hk : ∀ a ∈ ev7L L, evRight [a] = true := fun a ha => (ev7L_mem ha).2
  have hl := ev7_len L
  generalize ev7L L = l at hr hk hl
  unfold evRight
  rw [Bool.and_eq_true, List.all_eq_true]
  refine ⟨fun k h0 => ?_, decide_eq_true hl⟩
  have h1 := List.mem_range.1 h0
  have hx : l[k]? = some l[k] := List.getElem?_eq_getElem h1
  have hq : l[k - 1]? = some (l[k - 1]'(by omega)) := List.getElem?_eq_getElem (by omega)
  rw [okAt_is hx hq]
  have h2 := hk _ (List.getElem_mem h1)
  unfold evRight at h2
  rw [Bool.and_eq_true, List.all_eq_true] at h2
  have h3 := h2.1 0 (List.mem_range.2 Nat.one_pos)
  rw [okAt_is (x := l[k]) (q := l[k]) rfl rfl] at h3
  simp only [Bool.and_eq_true, Bool.or_eq_true, decide_eq_true_eq] at h3 ⊢
  refine ⟨⟨h3.1.1, ?_⟩, h3.2⟩
  by_cases k0 : k = 0
  · exact .inl k0
  · right
    have h4 := List.pairwise_iff_getElem.1 hr (k - 1) k (by omega) h1 (by omega)
    rw [ByteArray.toList_eq, ByteArray.toList_eq]
    exact h4
structure Tamed (o : PO) : Prop where
  tells : o.tells
  fit : o.fit
  len : (opBytes o).length ≤ 1000
theorem txt_len (s : ByteArray) : (txtBytes s).length = s.size + 1 := by
  unfold txtBytes
  rw [List.length_cons, txt_length]
theorem val_len {v : V} (h : v.text.size ≤ 40) : (valBytes v).length ≤ 42 := by
  unfold valBytes
  rw [List.length_cons]
  split
  · rw [longBytes_length]; omega
  · split
    · rw [longBytes_length]; omega
    · split
      · rw [List.length_cons, txt_length]; omega
      · simp
theorem cnd_len {c : Cnd} (h1 : c.name.size ≤ 12) (h2 : c.v.text.size ≤ 40) : (cndBytes c).length ≤ 56 := by
  unfold cndBytes
  have := val_len h2
  rw [List.length_append, List.length_append, List.length_cons, txt_length]
  simp only [List.length_cons, List.length_nil]
  omega
theorem att_len {c : Att} (h1 : c.name.size ≤ 12) (h2 : c.v.text.size ≤ 40) : (attBytes c).length ≤ 56 := by
  unfold attBytes
  have := val_len h2
  rw [List.length_append, List.length_cons, txt_length]
  omega
theorem cnds_len : ∀ {l : List Cnd}, (∀ c ∈ l, c.name.size ≤ 12 ∧ c.v.text.size ≤ 40) → (l.flatMap cndBytes).length ≤ 56 * l.length
  | [], _ => by simp
  | c :: l, h => by
    have h1 := cnd_len (h c (by simp)).1 (h c (by simp)).2
    have h2 := cnds_len (l := l) (fun d hd => h d (by simp [hd]))
    rw [List.flatMap_cons, List.length_append, List.length_cons]
    omega
theorem atts_len : ∀ {l : List Att}, (∀ c ∈ l, c.name.size ≤ 12 ∧ c.v.text.size ≤ 40) → (l.flatMap attBytes).length ≤ 56 * l.length
  | [], _ => by simp
  | c :: l, h => by
    have h1 := att_len (h c (by simp)).1 (h c (by simp)).2
    have h2 := atts_len (l := l) (fun d hd => h d (by simp [hd]))
    rw [List.flatMap_cons, List.length_append, List.length_cons]
    omega
theorem fil_len {sc : ByteArray} {l : List Cnd} (h : ∀ c ∈ l, c.name.size ≤ 12 ∧ c.v.text.size ≤ 40) : (filBytes sc l).length ≤ sc.size + 2 + 56 * l.length := by
  have := cnds_len h
  unfold filBytes
  rw [List.length_append, List.length_append, List.length_cons, txt_length]
  simp only [List.length_cons, List.length_nil]
  omega
theorem ev_len {sc : ByteArray} {l : List Att} (h : ∀ c ∈ l, c.name.size ≤ 12 ∧ c.v.text.size ≤ 40) : (evBytes sc l).length ≤ sc.size + 2 + 56 * l.length := by
  have := atts_len h
  unfold evBytes
  rw [List.length_append, List.length_append, List.length_cons, txt_length]
  simp only [List.length_cons, List.length_nil]
  omega
theorem zero_told : V.zero.told := ⟨by decide +kernel, (by decide : (-9223372036854775808 : Int) ≤ 0 ∧ (0 : Int) ≤ 9223372036854775807), (by decide : (0 : Nat) < 2 ^ 64)⟩
theorem canon_told {v : V} (hk : 0 ≤ v.kind ∧ v.kind ≤ 3) (ht : v.text.size ≤ 40) (hi : -9223372036854775808 ≤ v.int ∧ v.int ≤ 9223372036854775807) (hn : v.num < 2 ^ 64) : v.canon.told ∧ v.canon.text.size ≤ 40 := by
  have hz : (-9223372036854775808 : Int) ≤ 0 ∧ (0 : Int) ≤ 9223372036854775807 := by decide
  have hkk := canon_kind hk
  have htx : v.canon.text.size ≤ 40 := by
    unfold V.canon
    split
    · exact Nat.zero_le _
    · split
      · exact Nat.zero_le _
      · split
        · exact ht
        · split <;> exact Nat.zero_le _
  have hint : -9223372036854775808 ≤ v.canon.int ∧ v.canon.int ≤ 9223372036854775807 := by
    unfold V.canon
    split
    · exact hi
    · split
      · exact hz
      · split
        · exact hz
        · split <;> exact hz
  refine ⟨⟨?_, hint, canon_num' hn⟩, htx⟩
  unfold V.right
  rw [hkk]
  simp only [Bool.and_eq_true, decide_eq_true_eq]
  omega
theorem z255 : (0 : Int) ≤ 0 ∧ (0 : Int) ≤ 255 := by decide
theorem tamed_0 {T : Int} (hT : -1 ≤ T ∧ T ≤ 3) {p : PRu} (h1 : readRu (ruBytes p) = some (p, [])) (h2 : p.rightB = true) (h3 : (ruBytes p).length ≤ 900) : Tamed { PO.mk0 0 T with r := p } := by
  have hf := (readRu_back h1).2
  have f0 : (PO.mk0 0 T).fit := PO.mk0_fit ⟨by omega, by omega⟩ ⟨by omega, by omega⟩
  refine ⟨⟨(show (0 : Int) ≤ 0 ∧ (0 : Int) ≤ 7 from by decide), hT, Nat.zero_le _, fun _ => ⟨h1, h2⟩, (fun h => by cases h), (fun h => by cases h), z255, z255, z255⟩,
    ⟨f0.who, hf, f0.esc, f0.elen, f0.es, f0.fsc, f0.flen, f0.fs, f0.k0, f0.t0⟩, ?_⟩
  show ([byteOf 0, byteOf (T + 1)] ++ ruBytes p).length ≤ 1000
  simp only [List.length_append, List.length_cons, List.length_nil]
  omega
theorem tamed_1 {T : Int} (hT : -1 ≤ T ∧ T ≤ 3) {who : ByteArray} (hw : who.size ≤ 60) (S : ByteArray) (L : List Att) (hL : ∀ a ∈ L, (-9223372036854775808 ≤ a.v.int ∧ a.v.int ≤ 9223372036854775807) ∧ a.v.num < 2 ^ 64) : Tamed { PO.mk0 1 T with who := who, esc := ev7S S, es := ev7L L } := by
  have f0 : (PO.mk0 1 T).fit := PO.mk0_fit ⟨by omega, by omega⟩ ⟨by omega, by omega⟩
  have hs := ev7S_size (s := S)
  have hl := ev7_len L
  have hm := fun a (ha : a ∈ ev7L L) => ev7_small ha
  have hk : ∀ a ∈ ev7L L, (evRight [a] = true) ∧ a ∈ newL L := fun a ha => ⟨(ev7L_mem ha).2, (ev7L_mem ha).1⟩
  have hcn : ∀ a ∈ newL L, a.v.canon = a.v ∧ (-9223372036854775808 ≤ a.v.int ∧ a.v.int ≤ 9223372036854775807) ∧ a.v.num < 2 ^ 64 := newL_memb (p := fun a => a.v.canon = a.v ∧ (-9223372036854775808 ≤ a.v.int ∧ a.v.int ≤ 9223372036854775807) ∧ a.v.num < 2 ^ 64) L (fun a ha => ⟨V.canon_kept a.v, by
    have h1 := (hL a ha).1
    show -9223372036854775808 ≤ a.v.canon.int ∧ a.v.canon.int ≤ 9223372036854775807
    unfold V.canon
    split
    · exact h1
    · split
      · exact (by decide : (-9223372036854775808 : Int) ≤ 0 ∧ (0 : Int) ≤ 9223372036854775807)
      · split
        · exact (by decide : (-9223372036854775808 : Int) ≤ 0 ∧ (0 : Int) ≤ 9223372036854775807)
        · split <;> exact (by decide : (-9223372036854775808 : Int) ≤ 0 ∧ (0 : Int) ≤ 9223372036854775807), canon_num' (hL a ha).2⟩)
  have htell : ∀ a ∈ ev7L L, a.tells := fun a ha => by
    have h1 := hcn a (hk a ha).2
    exact ⟨by have := (hm a ha).1; omega, ⟨(ev_each (hk a ha).1 (List.mem_singleton.2 rfl)).2, h1.2.1, h1.2.2⟩, h1.1⟩
  have hright : evRight (ev7L L) = true := by
    exact ev7_right L
  refine ⟨⟨(show (0 : Int) ≤ 1 ∧ (1 : Int) ≤ 7 from by decide), hT, by show who.size ≤ 255; omega, (fun h => by cases h), (fun _ => ⟨by show (ev7S S).size ≤ 255; omega, hright, htell⟩), (fun h => by cases h), z255, z255, z255⟩,
    ⟨by show who.size ≤ 255; omega, f0.r, by show (ev7S S).size ≤ 255; omega, by show (ev7L L).length ≤ 255; omega, fun a ha => Att.tells_fit (htell a ha), f0.fsc, f0.flen, f0.fs, f0.k0, f0.t0⟩, ?_⟩
  show ([byteOf 1, byteOf (T + 1)] ++ (txtBytes who ++ evBytes (ev7S S) (ev7L L))).length ≤ 1000
  have h1 := ev_len (sc := ev7S S) (l := ev7L L) hm
  have h2 := txt_len who
  simp only [List.length_append, List.length_cons, List.length_nil]
  omega
theorem tamed_2 {T : Int} (hT : -1 ≤ T ∧ T ≤ 3) {who : ByteArray} (hw : who.size ≤ 60) {sc : ByteArray} {l : List Cnd} (hr : filRight sc l = true) (hn : ∀ c ∈ l, (-9223372036854775808 ≤ c.v.int ∧ c.v.int ≤ 9223372036854775807) ∧ c.v.num < 2 ^ 64) :
    Tamed { PO.mk0 2 T with who := who, fsc := sc, fs := normC l } := by
  have f0 : (PO.mk0 2 T).fit := PO.mk0_fit ⟨by omega, by omega⟩ ⟨by omega, by omega⟩
  obtain ⟨b1, b2, b3⟩ := fil_bounds hr
  have hl := normC_len l
  have hm : ∀ c ∈ normC l, c.name.size ≤ 12 ∧ c.v.text.size ≤ 40 ∧ c.tells := fun c hc => by
    obtain ⟨d, hd, rfl⟩ := sortC_mem (normC_mem hc)
    obtain ⟨d1, d2, d3, d4⟩ := b3 d hd
    have d5 := hn d hd
    unfold Cnd.norm
    split
    · exact ⟨d1, Nat.zero_le _, ⟨by show d.name.size ≤ 255; omega, (show (0 : Int) ≤ 7 ∧ (7 : Int) ≤ 255 from by decide), zero_told⟩⟩
    · have hkk := canon_told d3 d4 d5.1 d5.2
      exact ⟨d1, hkk.2, ⟨by show d.name.size ≤ 255; omega, ⟨by show (0 : Int) ≤ d.op; omega, by show d.op ≤ 255; omega⟩, hkk.1⟩⟩
  refine ⟨⟨(show (0 : Int) ≤ 2 ∧ (2 : Int) ≤ 7 from by decide), hT, by show who.size ≤ 255; omega, (fun h => by cases h), (fun h => by cases h), (fun _ => ⟨by show sc.size ≤ 255; omega, by show (normC l).length ≤ 255; omega, fun c hc => (hm c hc).2.2⟩), z255, z255, z255⟩,
    ⟨by show who.size ≤ 255; omega, f0.r, f0.esc, f0.elen, f0.es, by show sc.size ≤ 255; omega, by show (normC l).length ≤ 255; omega, fun c hc => ⟨(hm c hc).2.2.name, by have := (hm c hc).2.1; omega, (hm c hc).2.2.v.num⟩, f0.k0, f0.t0⟩, ?_⟩
  show ([byteOf 2, byteOf (T + 1)] ++ (txtBytes who ++ filBytes sc (normC l))).length ≤ 1000
  have h1 := fil_len (sc := sc) (l := normC l) (fun c hc => ⟨(hm c hc).1, (hm c hc).2.1⟩)
  have h2 := txt_len who
  simp only [List.length_append, List.length_cons, List.length_nil]
  omega
theorem tamed_3 {T : Int} (hT : -1 ≤ T ∧ T ≤ 3) {who : ByteArray} (hw : who.size ≤ 60) {s : Nat} (hs : s < 256) : Tamed { PO.mk0 3 T with who := who, sub := s } := by
  have f0 : (PO.mk0 3 T).fit := PO.mk0_fit ⟨by omega, by omega⟩ ⟨by omega, by omega⟩
  refine ⟨⟨(show (0 : Int) ≤ 3 ∧ (3 : Int) ≤ 7 from by decide), hT, by show who.size ≤ 255; omega, (fun h => by cases h), (fun h => by cases h), (fun h => by cases h), ⟨by show (0 : Int) ≤ (s : Int); omega, by show (s : Int) ≤ 255; omega⟩, z255, z255⟩,
    ⟨by show who.size ≤ 255; omega, f0.r, f0.esc, f0.elen, f0.es, f0.fsc, f0.flen, f0.fs, f0.k0, f0.t0⟩, ?_⟩
  show ([byteOf 3, byteOf (T + 1)] ++ (txtBytes who ++ [byteOf (s : Int)])).length ≤ 1000
  have h2 := txt_len who
  simp only [List.length_append, List.length_cons, List.length_nil]
  omega
theorem tamed_4 {T : Int} (hT : -1 ≤ T ∧ T ≤ 3) {k : Nat} (hk : 4 ≤ k ∧ k < 8) {a b : Nat} (ha : a < 256) (hb : b < 256) : Tamed { PO.mk0 k T with frm := a, to_ := b } := by
  have f0 : (PO.mk0 k T).fit := PO.mk0_fit ⟨by omega, by omega⟩ ⟨by omega, by omega⟩
  have n0 : ∀ i : Int, i < 4 → ¬ (k : Int) = i := fun i hi e => by omega
  refine ⟨⟨⟨by show (0 : Int) ≤ (k : Int); omega, by show (k : Int) ≤ 7; omega⟩, hT, Nat.zero_le _, (fun h => absurd h (n0 0 (by decide))), (fun h => absurd h (n0 1 (by decide))), (fun h => absurd h (n0 2 (by decide))), z255, ⟨by show (0 : Int) ≤ (a : Int); omega, by show (a : Int) ≤ 255; omega⟩, ⟨by show (0 : Int) ≤ (b : Int); omega, by show (b : Int) ≤ 255; omega⟩⟩,
    ⟨f0.who, f0.r, f0.esc, f0.elen, f0.es, f0.fsc, f0.flen, f0.fs, f0.k0, f0.t0⟩, ?_⟩
  unfold opBytes
  show ([byteOf (k : Int), byteOf (T + 1)] ++ (if (k : Int) = 0 then _ else if (k : Int) = 1 then _ else if (k : Int) = 2 then _ else if (k : Int) = 3 then _ else [byteOf (a : Int), byteOf (b : Int)])).length ≤ 1000
  rw [if_neg (n0 0 (by decide)), if_neg (n0 1 (by decide)), if_neg (n0 2 (by decide)), if_neg (n0 3 (by decide))]
  simp
end Go.Proofs.YtloplmaekonenaaGreatDoor
namespace Go.Proofs.YtloplmaekonenaaGreatDoor
set_option maxRecDepth 20000
open Go.RowKit
def SomeBool (w : World) (e : Ending) (w' : World) : Prop := ∃ b, e = .returned (.bool b) ∧ Mod (fun _ => False) w w'
set_option maxHeartbeats 2000000 in
theorem light07_at (w : World) (sc : ByteArray) (cv : Value) (l : List Cnd) (hv : RdSl w 7 cv l.length (cnds l)) (hll : l.length ≤ 9223372036854775807) :
    Calls Tryz.prog 15 #[.agg #[.string sc, cv]] w (SomeBool w) := by
  obtain ⟨a, cap, rfl, hcap⟩ : ∃ a c, cv = .slice a l.length c ∧ l.length ≤ c := by obtain ⟨-, a, c, h, h2, -⟩ := hv; exact ⟨a, c, h, h2⟩
  have hll' : (l.length : Int) ≤ 9223372036854775807 := by omega
  have hcap' : (l.length : Int) ≤ cap := by omega
  obtain ⟨wa, hwa⟩ : ∃ wa : World, w.alloc (.cells #[.string sc, .slice a l.length cap] 29) = wa := ⟨_, rfl⟩
  have hmwa : Mod (fun _ => False) w wa := hwa ▸ (Mod.refl (fun _ => False) w).alloc _
  have hgwa := heap_alloc_new w (.cells #[.string sc, .slice a l.length cap] 29)
  rw [hwa] at hgwa
  have hzwa : wa.heap.size = w.heap.size + 1 := by rw [← hwa]; simp
  have hva := hv.mod hmwa (fun _ _ h => h)
  have c0 : wa.cell? ⟨w.heap.size, 0, none⟩ = some (.string sc) := cell_of hgwa rfl
  have c1 : wa.cell? ⟨w.heap.size, 1, none⟩ = some (.slice a l.length cap) := cell_of hgwa rfl
  have hqz : w.heap.size < wa.heap.size := by omega
  have Hv := Lib.hid hv
  have Hwa := Lib.hid hwa
  have Hmwa := Lib.hid hmwa
  have Hgwa := Lib.hid hgwa
  have Hva := Lib.hid hva
  clear hv hwa hmwa hgwa hva hzwa hll
  go_enter Tryz.func15, Tryz.ntmps15
  go_wp2_with (first | (rw [show w.alloc _ = wa from Hwa.out]) | fail)
  go_loopw [3, 12] (fun n i wr => ∃ (j : Nat) (x : Int), n = .int .i64 x ∧ i = .int .i64 j ∧ j ≤ l.length ∧ Mod (fun _ => False) wa wr) (fun _ i _ => l.length - (intOf i).toNat)
  case atStart => exact ⟨0, _, rfl, rfl, Nat.zero_le _, Mod.refl _ _⟩
  case round =>
    obtain ⟨j, n, rfl, rfl, hj, hmr⟩ := hrel
    by_cases hlt : j < l.length
    · have hlt' : (j : Int) < l.length := by omega
      obtain ⟨x, hxj⟩ : ∃ x, l[j]? = some x := ⟨_, List.getElem?_eq_getElem hlt⟩
      obtain ⟨g, off, rfl, hf⟩ : ∃ g off, a = some ⟨g, off, none⟩ ∧ CellsAt wr g (off + j * 7) x.cells := rd_cnd (Hva.out.mod hmr (fun _ _ h => h)) hxj
      obtain ⟨wz, hwz⟩ : ∃ wz : World, wr.alloc (.cells x.cells.toArray 81) = wz := ⟨_, rfl⟩
      have hmwz : Mod (fun _ => False) wr wz := hwz ▸ (Mod.refl (fun _ => False) wr).alloc _
      have hgwz := heap_alloc_new wr (.cells x.cells.toArray 81)
      rw [hwz] at hgwz
      have hzwz : wz.heap.size = wr.heap.size + 1 := by rw [← hwz]; simp
      have hmz := hmr.trans hmwz (fun _ _ h => h)
      have b0 : wz.cell? ⟨wr.heap.size, 0, none⟩ = some (.string x.name) := cell_of hgwz rfl
      have b5 : wz.cell? ⟨wr.heap.size, 5, none⟩ = some (.string x.v.text) := cell_of hgwz rfl
      have Hmr := Lib.hid hmr
      have Hxj := Lib.hid hxj
      have Hf := Lib.hid hf
      have Hwz := Lib.hid hwz
      have Hmwz := Lib.hid hmwz
      have Hgwz := Lib.hid hgwz
      have Hmz := Lib.hid hmz
      clear hmr hxj hf hwz hmwz hgwz hmz hzwz c0 c1
      go_wp2_with (first | ((with_reducible refine wpList_load_lit 81 (.tmp 14) ?_); refine ⟨g, off + j * 7, rfl, x.cells, Hf.out, by kernel_rfl, by kernel_rfl, ?_⟩) | ((with_reducible refine wpList_store_lit 81 (.tmp 5) (.tmp 15) ?_); refine ⟨rfl, x.cells, rfl, rfl, by kernel_rfl, rfl, ?_⟩; rw [Hwz.out]) | fail)
      go_roundw
      case rel => exact ⟨j + 1, _, rfl, by go_num, hlt, Hmz.out⟩
      case measure => simp [intOf]; omega
    · obtain rfl : j = l.length := by omega
      have hgr := hmr.heap Hgwa.out (fun h => h)
      have c1 : wr.cell? ⟨w.heap.size, 1, none⟩ = some (.slice a l.length cap) := cell_of hgr rfl
      have Hm := Lib.hid (Hmwa.out.trans hmr (fun _ _ h => h))
      clear hmr hgr
      by_cases hn : n ≤ 2000
      · go_wp2
        go_ret
        exact ⟨_, rfl, Hm.out⟩
      · have hn' : 2000 < n := by omega
        clear hn
        go_wp2
        go_ret
        exact ⟨_, rfl, Hm.out⟩
end Go.Proofs.YtloplmaekonenaaGreatDoor
