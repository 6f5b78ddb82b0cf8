/-
  The keys of a map that the call made, sorted; ranges over such maps.
  Package index in memory; New, Len.
  Package index: Add.
  A range over a map that the call made, of values as they are.
  Package table in memory.
-/
import Derived.Test.YtloplmaekonenaaGreatDoorZg24
import Derived.Maps.RangeWalk
import Derived.Test.YtloplmaekonenaaGreatDoorZg23
import Derived.Test.YtloplmaekonenaaGreatDoorZg10
import Derived.Sort.KeysCollected
namespace Go.Proofs.YtloplmaekonenaaGreatDoor
set_option maxRecDepth 20000
open Go.RowKit Go.Maps Go.Sort

theorem own_row' {w : World} {B sz n : Nat} {e : TypeId} {v : Value} {xs : List Value} (h : w.ownsRow B e sz v n xs) : OwnSl w e sz v n xs ∧ ∀ k, v.ownBlock = some k → B ≤ k := by
  obtain ⟨h1, h2⟩ := h
  rcases h2 with ⟨rfl, rfl⟩ | ⟨g, cap, cur, rfl, h2, h3, h4, h5, h6, h7⟩
  · exact ⟨⟨h1, .inl ⟨rfl, rfl⟩⟩, fun k hk => by simp [Value.ownBlock] at hk⟩
  · exact ⟨⟨h1, .inr ⟨g, 0, cap, cur, rfl, h3, h4, h5, by omega, by simpa using h7⟩⟩, fun k hk => by simp [Value.ownBlock] at hk; subst hk; exact h2⟩
theorem MapR.keysS {w : World} {kt : TypeId} {b n : Nat} {f : Lit → Option Value} (h : MapR w kt b n f) (K : Maps.Keyed Tryz.prog kt) (hk : Tryz.prog.underlying kt = some .string) {L : List (List UInt8)} (hnd : L.Nodup) (hm : ∀ x, x ∈ L ↔ (f (.string x)).isSome = true) :
    ∃ D : DataW Value, w.ownsMap Tryz.prog kt rawR b n D ∧ L.Perm (strKeys D) ∧ Maps.size D = n := by
  obtain ⟨D, h1, h2, -, h4⟩ := h
  refine ⟨D, h1, ?_, h2⟩
  obtain ⟨es, hD, hpw, _⟩ := h1.entries K
  obtain ⟨es', hD', hko⟩ := h1.keysOf
  obtain rfl : es = es' := by rw [hD] at hD'; simpa using hD'
  subst hD
  exact perm_strKeys hpw (fun p hp => by obtain ⟨v, hv⟩ := hko p hp; obtain ⟨x, _, hx, _⟩ := Maps.keyOf_str hk hv; exact ⟨x, hx⟩) hnd (fun x => by rw [hm x, h4])
/-- Texts, rising. -/
def riseS (L : List (List UInt8)) : List (List UInt8) := L.mergeSort leB
theorem keyed_i : Maps.Keyed Tryz.prog 3 := Maps.int_keyed Tryz.underlying3
theorem keyed_s : Maps.Keyed Tryz.prog 9 := Maps.string_keyed Tryz.underlying9

/-- What slices.Sorted hands back of a map's keys. -/
def SortedPost (w : World) (e : TypeId) (xs : List Value) (x : Ending) (w' : World) : Prop :=
  ∃ v, x = .returned v ∧ OwnSl w' e 1 v xs.length xs ∧ (∀ k, v.ownBlock = some k → w.heap.size ≤ k) ∧ Mod (fun _ => False) w w'
end Go.Proofs.YtloplmaekonenaaGreatDoor

namespace Go.Proofs.YtloplmaekonenaaGreatDoor
set_option maxRecDepth 20000
open Go.RowKit

/-- A condition, and whose. -/
def pcell (p : Int × Cnd) : List Value := .int .i64 p.1 :: p.2.cells
def pls (l : List (Int × Cnd)) : List Value := l.flatMap pcell
/-- A filter: its scope, its conditions. -/
abbrev Fil := ByteArray × List Cnd
/-- The filter of a number. -/
def idxF (I : List (Int × Fil)) (id : Int) : Option Fil := (I.find? fun p => p.1 == id).map Prod.snd
/-- A map's value is a filter, whose conditions nobody writes. -/
def FilIs (w : World) (own C : Nat → Prop) : Option Value → Option Fil → Prop
  | none, none => True
  | some v, some q => ∃ a cap, v = .agg #[.string q.1, .slice a q.2.length cap] ∧ OwnSl w 81 7 (.slice a q.2.length cap) q.2.length (cnds q.2) ∧ ∀ k, (Value.slice a q.2.length cap).ownBlock = some k → k < w.heap.size ∧ ¬ own k ∧ C k
  | _, _ => False
/-- The conditions of that name. -/
def ofName (q : Option Fil) (nm : ByteArray) : List Cnd := match q with | some q => q.2.filter fun c => c.name.data.toList == nm.data.toList | none => []
/-- What stands under a name. -/
def Plac (w : World) (own : Nat → Prop) (I : List (Int × Fil)) (T : Nat) (nm : ByteArray) (v : Value) : Prop :=
  ∃ ps : List (Int × Cnd), OwnSl w 85 8 v ps.length (pls ps) ∧ ps.length ≤ T ∧ (∀ k, v.ownBlock = some k → own k) ∧ ∀ id, (ps.filter fun p => p.1 == id).map Prod.snd = ofName (idxF I id) nm
def Lit.str (nm : ByteArray) : Lit := .string nm.data.toList
def nilS : Value := .slice none 0 0
/-- The map of names. -/
def PMap (w : World) (b m1 m2 : Nat) (own : Nat → Prop) (I : List (Int × Fil)) (T : Nat) : Prop :=
  ∃ n f, MapR w 9 m2 n f ∧ n ≤ T ∧ (∀ nm : ByteArray, Plac w own I T nm ((f (Lit.str nm)).getD nilS)) ∧
    (∀ nm k, ((f (Lit.str nm)).getD nilS).ownBlock = some k → k ≠ b ∧ k ≠ m1 ∧ k ≠ m2) ∧ ∀ nm nm' k, ((f (Lit.str nm)).getD nilS).ownBlock = some k → ((f (Lit.str nm')).getD nilS).ownBlock = some k → nm = nm'
/-- The map of filters. -/
def FMap (w : World) (m1 : Nat) (own C : Nat → Prop) (I : List (Int × Fil)) : Prop := ∃ f, MapR w 3 m1 I.length f ∧ ∀ id : Int, FilIs w own C (f (.int .i64 id)) (idxF I id)
/-- An index in memory: its own blocks are those of 'own'; 'T' bounds what it ever held. -/
structure IdxAt (w : World) (b m1 m2 : Nat) (own C : Nat → Prop) (I : List (Int × Fil)) (T : Nat) : Prop where
  row : w.heap[b]? = some (.cells #[.map (some m1), .map (some m2)] 76 (0, 0))
  nd : (I.map Prod.fst).Nodup
  ob : own b ∧ own m1 ∧ own m2
  ne : b ≠ m1 ∧ b ≠ m2 ∧ m1 ≠ m2
  fm : FMap w m1 own C I
  pm : PMap w b m1 m2 own I T
  low : I.length ≤ T
  olow : ∀ k, own k → k < w.heap.size
  clow : ∀ k, C k → k < w.heap.size
  wf : ∀ p ∈ I, (Lit.int .i64 p.1).wf = true ∧ p.2.2.length ≤ 19 ∧ ∀ c ∈ p.2.2, c.fits
  sc : ∀ p ∈ I, p.2.1.size ≤ 1000000
/-- An index. -/
def Idx (w : World) (b : Nat) (own C : Nat → Prop) (I : List (Int × Fil)) (T : Nat) : Prop := ∃ m1 m2, IdxAt w b m1 m2 own C I T

theorem FilIs.mod {w w' : World} {F own C : Nat → Prop} {v : Option Value} {q : Option Fil} (h : FilIs w own C v q) (hm : Mod F w w') (hF : ∀ k, k < w.heap.size → F k → own k) : FilIs w' own C v q := by
  cases v <;> cases q
  · trivial
  · exact h
  · exact h
  · obtain ⟨a, cap, h1, h2, h3⟩ := h
    exact ⟨a, cap, h1, h2.mod hm (fun k hk hf => (h3 k hk).2.1 (hF k (h3 k hk).1 hf)), fun k hk => ⟨Nat.lt_of_lt_of_le (h3 k hk).1 hm.size, (h3 k hk).2⟩⟩
theorem FMap.mod {w w' : World} {m1 : Nat} {F own C : Nat → Prop} {I : List (Int × Fil)} (h : FMap w m1 own C I) (hm : Mod F w w') (h1 : ¬ F m1) (hF : ∀ k, k < w.heap.size → F k → own k) : FMap w' m1 own C I := by
  obtain ⟨f, h2, h3⟩ := h
  exact ⟨f, h2.mod hm h1, fun id => (h3 id).mod hm hF⟩
theorem PMap.mod {w w' : World} {b m1 m2 : Nat} {F own : Nat → Prop} {I : List (Int × Fil)} {T : Nat} (h : PMap w b m1 m2 own I T) (hm : Mod F w w') (h2 : ¬ F m2) (hF : ∀ k, own k → k ≠ b → k ≠ m1 → k ≠ m2 → k < w.heap.size → ¬ F k) : PMap w' b m1 m2 own I T := by
  obtain ⟨n, f2, g1, g2, g3, g4, g5⟩ := h
  refine ⟨n, f2, g1.mod hm h2, g2, fun nm => ?_, g4, g5⟩
  obtain ⟨ps, p1, p2, p3, p4⟩ := g3 nm
  exact ⟨ps, p1.mod hm (fun k hk => hF k (p3 k hk) (g4 nm k hk).1 (g4 nm k hk).2.1 (g4 nm k hk).2.2 (p1.lt k hk)), p2, p3, p4⟩
theorem PMap.cong {w : World} {b m1 m2 : Nat} {own own' : Nat → Prop} {I I' : List (Int × Fil)} {T T' : Nat} (h : PMap w b m1 m2 own I T) (ho : ∀ k, k < w.heap.size → own k → own' k) (hI : ∀ id nm, ofName (idxF I' id) nm = ofName (idxF I id) nm) (hT : T ≤ T') : PMap w b m1 m2 own' I' T' := by
  obtain ⟨n, f2, g1, g2, g3, g4, g5⟩ := h
  refine ⟨n, f2, g1, Nat.le_trans g2 hT, fun nm => ?_, g4, g5⟩
  obtain ⟨ps, p1, p2, p3, p4⟩ := g3 nm
  exact ⟨ps, p1, Nat.le_trans p2 hT, fun k hk => ho k (p1.lt k hk) (p3 k hk), fun id => by rw [hI]; exact p4 id⟩
/-- What is not written stays. -/
theorem IdxAt.mod2 {w w' : World} {b m1 m2 : Nat} {own C F : Nat → Prop} {I : List (Int × Fil)} {T : Nat} (h : IdxAt w b m1 m2 own C I T) (hm : Mod F w w') (hF : ∀ k, k < w.heap.size → F k → ¬ own k ∧ ¬ C k) : IdxAt w' b m1 m2 own C I T := by
  have hn : ∀ k, own k → ¬ F k := fun k hk hf => (hF k (h.olow k hk) hf).1 hk
  refine ⟨hm.heap h.row (hn _ h.ob.1), h.nd, h.ob, h.ne, ?_, h.pm.mod hm (hn _ h.ob.2.2) (fun k hk _ _ _ _ => hn k hk), h.low, fun k hk => Nat.lt_of_lt_of_le (h.olow k hk) hm.size, fun k hk => Nat.lt_of_lt_of_le (h.clow k hk) hm.size, h.wf, h.sc⟩
  obtain ⟨f, h1, h2⟩ := h.fm
  refine ⟨f, h1.mod hm (hn _ h.ob.2.1), fun id => ?_⟩
  have h3 := h2 id
  cases hf : f (.int .i64 id) <;> cases hi : idxF I id <;> rw [hf, hi] at h3
  · trivial
  · exact h3
  · exact h3
  · obtain ⟨a, cap, e1, e2, e3⟩ := h3
    exact ⟨a, cap, e1, e2.mod hm (fun k hk hf => (hF k (e3 k hk).1 hf).2 (e3 k hk).2.2), fun k hk => ⟨Nat.lt_of_lt_of_le (e3 k hk).1 hm.size, (e3 k hk).2⟩⟩
theorem Idx.mod2 {w w' : World} {b : Nat} {own C F : Nat → Prop} {I : List (Int × Fil)} {T : Nat} (h : Idx w b own C I T) (hm : Mod F w w') (hF : ∀ k, k < w.heap.size → F k → ¬ own k ∧ ¬ C k) : Idx w' b own C I T := by
  obtain ⟨m1, m2, h⟩ := h
  exact ⟨m1, m2, h.mod2 hm hF⟩
theorem IdxAt.mod {w w' : World} {b m1 m2 : Nat} {own C F : Nat → Prop} {I : List (Int × Fil)} {T : Nat} (h : IdxAt w b m1 m2 own C I T) (hm : Mod F w w') (hF : ∀ k, k < w.heap.size → ¬ F k) : IdxAt w' b m1 m2 own C I T := h.mod2 hm (fun k hk hf => absurd hf (hF k hk))
theorem Idx.mod {w w' : World} {b : Nat} {own C F : Nat → Prop} {I : List (Int × Fil)} {T : Nat} (h : Idx w b own C I T) (hm : Mod F w w') (hF : ∀ k, k < w.heap.size → ¬ F k) : Idx w' b own C I T := h.mod2 hm (fun k hk hf => absurd hf (hF k hk))
theorem Idx.low {w : World} {b : Nat} {own C : Nat → Prop} {I : List (Int × Fil)} {T : Nat} (h : Idx w b own C I T) : (∀ k, own k → k < w.heap.size) ∧ ∀ k, C k → k < w.heap.size := by
  obtain ⟨m1, m2, h⟩ := h
  exact ⟨h.olow, h.clow⟩

end Go.Proofs.YtloplmaekonenaaGreatDoor

namespace Go.Proofs.YtloplmaekonenaaGreatDoor
set_option maxRecDepth 20000
open Go.RowKit

theorem idxF_new {I : List (Int × Fil)} {id : Int} {q : Fil} (h : idxF I id = none) (x : Int) : idxF (I ++ [(id, q)]) x = if x = id then some q else idxF I x := by
  unfold idxF at *
  rw [List.find?_append]
  by_cases hx : x = id
  · subst hx
    rw [if_pos rfl]
    have : I.find? (fun p => p.1 == x) = none := by
      cases hf : I.find? (fun p => p.1 == x) with
      | none => rfl
      | some p => rw [hf] at h; cases h
    rw [this]
    simp
  · rw [if_neg hx]
    cases hf : I.find? (fun p => p.1 == x) with
    | some p => rfl
    | none =>
      have : (id == x) = false := by rw [beq_eq_false_iff_ne]; exact fun e => hx e.symm
      simp [this]
theorem normC_mem {l : List Cnd} {c : Cnd} (h : c ∈ normC l) : c ∈ sortC l := by
  unfold normC keepC at h
  obtain ⟨⟨d, i⟩, h1, h2⟩ := List.mem_filterMap.1 h
  have h3 := (List.mem_zipIdx h1).2.2
  rw [h3] at h2
  simp only at h2
  split at h2
  · cases h2
  · cases h2
    exact List.mem_of_mem_take (List.getElem_mem _)
theorem normC_len (l : List Cnd) : (normC l).length ≤ l.length := by
  unfold normC
  exact keepC_len _ _
theorem normC_fits {l : List Cnd} (hl : ∀ c ∈ l, c.fits) : ∀ c ∈ normC l, c.fits := fun c hc => by
  obtain ⟨d, hd, rfl⟩ := sortC_mem (normC_mem hc)
  exact norm_fits (hl d hd)
theorem zero_pl (w : World) : (zeroValue 82).run Tryz.prog w = .ok nilS w := by kernel_rfl
/-- What a round of Add reads. -/
def AddS (b m2 cb : Nat) (n : Nat) (f : Lit → Option Value) (v : Value) (x : Cnd) (y : World) : Prop :=
  y.cell? ⟨b, 1, none⟩ = some (.map (some m2)) ∧ y.cell? ⟨cb, 0, none⟩ = some (.string x.name) ∧ AllCells y cb 0 7 ∧ cellsOf y cb 0 7 = #[.string x.name, .int .i64 x.op, .int .i64 x.v.kind, .int .i64 x.v.int, .float .f64 x.v.num, .string x.v.text, .bool x.v.yes] ∧
    MapR y 9 m2 n f ∧ (Instr.lookup 74 (.map (some m2)) (.string x.name) false).run Tryz.prog y = .ok v y
theorem AddS.at {y : World} {b m1 m2 cb n : Nat} {f : Lit → Option Value} {v : Value} {x : Cnd} (h1 : y.heap[b]? = some (.cells #[.map (some m1), .map (some m2)] 76 (0, 0))) (h2 : y.heap[cb]? = some (.cells x.cells.toArray 81 (0, 0)))
    (h3 : MapR y 9 m2 n f) (hv : (f (Lit.str x.name)).getD nilS = v) (hx : x.name.size ≤ 1000000) : AddS b m2 cb n f v x y := by
  refine ⟨cell_of h1 rfl, cell_of h2 rfl, (CellsAt.row h2).all rfl, (CellsAt.row h2).is rfl, h3, ?_⟩
  rw [← hv]
  exact h3.look keyed_s Tryz.underlying74 (zero_pl y) (WideMaps.keyOf_string_mk Tryz.underlying9 (by unfold maxLen; omega))

theorem zero_fil (w : World) : (zeroValue 29).run Tryz.prog w = .ok (.agg #[.string ⟨#[]⟩, .slice none 0 0]) w := by kernel_rfl
theorem wp_mput {o : Oper} {a : Act} {w : World} {K : Act → World → Prop} {Q : Exit → Act → World → Prop} (t : TypeId) (m x v : Operand) (ho : o.op = .mapUpdate t m x v)
    (h : ∃ (kt e : TypeId) (b n : Nat) (f : Lit → Option Value) (kl : Lit), MapR w kt b n f ∧ Maps.Keyed Tryz.prog kt ∧ Tryz.prog.underlying t = some (.map kt e) ∧ n < maxLen ∧ a.eval m = .map (some b) ∧ keyOf Tryz.prog kt (a.eval x) = some kl ∧
      ∀ w', MapR w' kt b (if (f kl).isSome then n else n + 1) (putF f kl (a.eval v)) → Mod (fun k => k = b) w w' → K (a.put o.dst undef) w') : o.wp Tryz.prog a w K Q := by
  obtain ⟨kt, e, b, n, f, kl, h1, K1, ht, hn, hm, hkey, hK⟩ := h
  obtain ⟨w', hrun, r1, r2⟩ := h1.put K1 ht hn hkey (a.eval v)
  unfold Oper.wp
  simp [execOp, ho, hm, hrun, Result.andThen]
  exact hK w' r1 r2

theorem FMap.put {w w6 : World} {m1 : Nat} {own own' C C' : Nat → Prop} {I : List (Int × Fil)} {f : Lit → Option Value} {id : Int} {v : Value} {q : Fil} (h2 : ∀ id : Int, FilIs w own C (f (.int .i64 id)) (idxF I id)) (hn : idxF I id = none) (h6 : MapR w6 3 m1 (I.length + 1) (putF f (.int .i64 id) v))
    (hm : Mod (fun k => k = m1) w w6) (hm1 : own m1) (hq : FilIs w6 own' C' (some v) (some q)) (ho : ∀ k, k < w.heap.size → own' k → own k) (hC : ∀ k, C k → C' k) : FMap w6 m1 own' C' (I ++ [(id, q)]) := by
  refine ⟨_, by rw [List.length_append]; exact h6, fun x => ?_⟩
  rw [idxF_new hn]
  unfold putF
  by_cases e : x = id
  · rw [if_pos e, if_pos (by rw [e])]; exact hq
  · rw [if_neg e, if_neg (fun h => e (Lit.int.inj h).2)]
    have h3 := (h2 x).mod hm (fun k _ e => e ▸ hm1)
    cases hf : f (.int .i64 x) <;> cases hi : idxF I x <;> rw [hf, hi] at h3
    · trivial
    · exact h3
    · exact h3
    · have h4 := h2 x
      rw [hf, hi] at h4
      obtain ⟨a, cap, e1, -, e3⟩ := h4
      obtain ⟨a', cap', e1', h5, h6⟩ := h3
      rw [e1] at e1'
      cases e1'
      exact ⟨a, cap, e1, h5, fun k hk => ⟨(h6 k hk).1, fun h => (e3 k hk).2.1 (ho k (e3 k hk).1 h), hC k (e3 k hk).2.2⟩⟩

attribute [local go_sem ↓] run_load_cd
end Go.Proofs.YtloplmaekonenaaGreatDoor

namespace Go.Proofs.YtloplmaekonenaaGreatDoor
set_option maxRecDepth 20000
open Go.RowKit

/-- Block r ranges over the map b, which reads as f; 'left': what is still to come; cnt: how many. -/
def RngR (w : World) (kt : TypeId) (b r : Nat) (f : Lit → Option Value) (left : Lit → Bool) (cnt : Nat) : Prop :=
  ∃ (D : DataW Value) (n : Nat), w.ranges Tryz.prog kt rawR b r n D left cnt ∧ (∀ kl z, D.atKey kl (.held z) = .held ((f kl).getD z)) ∧ ∀ kl, Maps.has D kl = (f kl).isSome
theorem RngR.mod {w w' : World} {kt : TypeId} {b r : Nat} {f : Lit → Option Value} {left : Lit → Bool} {cnt : Nat} {F : Nat → Prop} (h : RngR w kt b r f left cnt) (hm : Mod F w w') (h1 : ¬ F b) (h2 : ¬ F r) : RngR w' kt b r f left cnt := by
  obtain ⟨D, n, ⟨es, clock, since, seen, c0, hb, F', hs, hD, hr, rest⟩, h3⟩ := h
  exact ⟨D, n, ⟨es, clock, since, seen, c0, hm.heap hb h1, F', hs, hD, hm.heap hr h2, rest⟩, h3⟩
theorem RngR.left_eq {w : World} {kt : TypeId} {b r : Nat} {f : Lit → Option Value} {left : Lit → Bool} {cnt : Nat} (h : RngR w kt b r f left cnt) : w.rangeLeft b r = cnt := by
  obtain ⟨D, n, h1, -⟩ := h
  exact h1.left_eq
theorem RngR.cong {w : World} {kt : TypeId} {b r : Nat} {f : Lit → Option Value} {left left' : Lit → Bool} {cnt : Nat} (h : RngR w kt b r f left cnt) (e : left = left') : RngR w kt b r f left' cnt := e ▸ h
theorem grown_mod0 {w w' : World} (h : w.grownBy w' none) : Mod (fun _ => False) w w' := ⟨h.os, h.tape, h.output, h.size, fun k hk _ => h.block k hk (fun e => by cases e)⟩
theorem at_some {f : Lit → Option Value} {kl : Lit} {c : Value} (h : ∀ z, (f kl).getD z = c) : f kl = some c := by
  cases hf : f kl with
  | some v => rw [hf] at h; exact congrArg some (h c)
  | none =>
    rw [hf] at h
    have h1 := h (.bool true)
    have h2 := h (.bool false)
    rw [← h2] at h1
    cases h1

theorem wpList_range_R {w : World} {ops : Array Oper} {rest : List Oper} {o : Oper} {a : Act} {Q : Exit → Act → World → Prop} (hg : o.guard = none) (m : Operand) (t : TypeId) (hop : o.op = .range t m) (kt e : TypeId) (K : Maps.Keyed Tryz.prog kt)
    (ht : Tryz.prog.underlying t = some (.map kt e)) (b n : Nat) (f : Lit → Option Value) (hm : a.eval m = .map (some b)) (h : MapR w kt b n f)
    (hK : ∀ w', RngR w' kt b w.heap.size f (fun kl => (f kl).isSome) n → Mod (fun _ => False) w w' → w'.heap.size = w.heap.size + 1 → wpList Tryz.prog ops Q rest (a.put o.dst (.pointer (some ⟨w.heap.size, 0, none⟩))) w') : wpList Tryz.prog ops Q (o :: rest) a w := by
  obtain ⟨D, h1, h2, h3, h4⟩ := h
  refine wpList_range_own w hg m t hop kt e K ht rawR b n D hm h1 fun w' r1 r2 r3 => hK w' ?_ (grown_mod0 r2) r3
  rw [h2] at r1
  refine ⟨D, n, ?_, h3, h4⟩
  have : (fun kl => (f kl).isSome) = Maps.has D := by funext kl; exact (h4 kl).symm
  rw [this]
  exact r1

theorem wpList_next_R {w : World} {ops : Array Oper} {rest : List Oper} {o : Oper} {a : Act} {Q : Exit → Act → World → Prop} {α : Type} (hg : o.guard = none) (it : Operand) (hop : o.op = .next it false) (kt : TypeId) (K : Maps.Keyed Tryz.prog kt)
    (mkK : α → Value) (mkL : α → Lit) (invK : ∀ key kl, keyOf Tryz.prog kt key = some kl → ∃ x, key = mkK x) (inL : ∀ x kl, keyOf Tryz.prog kt (mkK x) = some kl → kl = mkL x) (b r : Nat) (f : Lit → Option Value) (left : Lit → Bool) (cnt : Nat)
    (hit : a.eval it = .pointer (some ⟨r, 0, none⟩)) (h : RngR w kt b r f left cnt)
    (hDone : (∀ kl, left kl = false) → wpList Tryz.prog ops Q rest (a.put o.dst (.tuple #[.bool false])) w)
    (hMore : ∀ (x : α) (c : Value) (w' : World) (cnt' : Nat), keyOf Tryz.prog kt (mkK x) = some (mkL x) → left (mkL x) = true → f (mkL x) = some c → RngR w' kt b r f (fun z => left z && !z.sameKey (mkL x)) cnt' → cnt' < cnt → Mod (fun k => k = r) w w' → w'.heap.size = w.heap.size →
      (Instr.entry (.pointer (some ⟨r, 0, none⟩))).run Tryz.prog w' = .ok (.tuple #[mkK x, c]) w' → wpList Tryz.prog ops Q rest (a.put o.dst (.tuple #[.bool true, mkK x, c])) w') : wpList Tryz.prog ops Q (o :: rest) a w := by
  obtain ⟨D, n, h1, h2, h3⟩ := h
  refine wpList_next_ranges w hg it hop kt K rawR mkK (fun c : Value => c) invK (fun v _ _ => ⟨v, rfl⟩) b r n D left cnt hit h1 (fun _ h => hDone h) ?_
  intro x c kl y w' cnt' hkey hlk hv hat hrg hlt hgr hsz hen
  have hkl := inL x kl hkey
  subst hkl
  have hy : y = (.held c, []) := by
    have : some ((.held c : DataW Value), ([] : List MemPlace)) = some y := hv
    exact (Option.some.inj this).symm
  subst hy
  refine hMore x c w' cnt' hkey hlk (at_some fun z => ?_) ⟨D, n, hrg, h2, h3⟩ hlt (grown_mod hgr) hsz hen
  have h5 := hat (.held z)
  rw [h2] at h5
  exact DataW.held.inj h5
/-- Keys that are numbers. -/
theorem inv_i (kt : TypeId) (hk : Tryz.prog.underlying kt = some (.int .i64)) : ∀ key kl, keyOf Tryz.prog kt key = some kl → ∃ x, key = Value.int .i64 x := fun key kl h => by
  obtain ⟨x, hx, -⟩ := Maps.keyOf_int_inv hk h
  exact ⟨x, hx⟩
theorem in_i (kt : TypeId) (hk : Tryz.prog.underlying kt = some (.int .i64)) : ∀ (x : Int) kl, keyOf Tryz.prog kt (.int .i64 x) = some kl → kl = .int .i64 x := fun x kl h => by
  obtain ⟨y, hx, hl, -⟩ := Maps.keyOf_int_inv hk h
  cases hx
  exact hl
theorem wf_i {kt : TypeId} (hk : Tryz.prog.underlying kt = some (.int .i64)) {x : Int} {kl : Lit} (h : keyOf Tryz.prog kt (.int .i64 x) = some kl) : (Lit.int .i64 x).wf = true := by
  obtain ⟨y, hx, -, hw⟩ := Maps.keyOf_int_inv hk h
  cases hx
  exact hw
/-- Keys that are texts. -/
theorem inv_s (kt : TypeId) (hk : Tryz.prog.underlying kt = some .string) : ∀ key kl, keyOf Tryz.prog kt key = some kl → ∃ x : List UInt8, key = encStr x := fun key kl h => by
  obtain ⟨x, hx, -⟩ := Maps.keyOf_str hk h
  exact ⟨x, hx⟩
theorem in_s (kt : TypeId) (hk : Tryz.prog.underlying kt = some .string) : ∀ (x : List UInt8) kl, keyOf Tryz.prog kt (encStr x) = some kl → kl = .string x := fun x kl h => by
  obtain ⟨y, hx, hl, -⟩ := Maps.keyOf_str hk h
  have : x = y := by
    have h1 := Value.string.inj hx
    have h2 := congrArg (fun b : ByteArray => b.data.toList) h1
    simpa using h2
  rw [this, hl]
theorem same_i (x y : Int) : (Lit.int .i64 y).sameKey (.int .i64 x) = (y == x) := by
  unfold Lit.sameKey
  by_cases h : y = x
  · simp [h]
  · simp [h]
theorem same_s (x y : List UInt8) : (Lit.string y).sameKey (.string x) = (y == x) := rfl
end Go.Proofs.YtloplmaekonenaaGreatDoor

namespace Go.Proofs.YtloplmaekonenaaGreatDoor
set_option maxRecDepth 20000
open Go.RowKit

/-- A filter's key. -/
def keyF (q : Fil) : List UInt8 := filPrt q.1 q.2
/-- What a place has under a key. -/
def tabF (M : List (Int × Fil)) (id : Int) (k : List UInt8) : Option Fil := (M.find? fun p => p.1 == id && keyF p.2 == k).map Prod.snd

theorem FilIs.mod2 {w w' : World} {F own C : Nat → Prop} {v : Option Value} {q : Option Fil} (h : FilIs w own C v q) (hm : Mod F w w') (hF : ∀ k, k < w.heap.size → F k → ¬ C k) : FilIs w' own C v q := by
  cases v <;> cases q
  · trivial
  · exact h
  · exact h
  · obtain ⟨a, cap, h1, h2, h3⟩ := h
    exact ⟨a, cap, h1, h2.mod hm (fun k hk hf => hF k (h3 k hk).1 hf (h3 k hk).2.2), fun k hk => ⟨Nat.lt_of_lt_of_le (h3 k hk).1 hm.size, (h3 k hk).2⟩⟩
theorem FilIs.cong {w : World} {own own' C C' : Nat → Prop} {v : Option Value} {q : Option Fil} (h : FilIs w own C v q) (ho : ∀ k, k < w.heap.size → C k → own' k → own k) (hC : ∀ k, C k → C' k) : FilIs w own' C' v q := by
  cases v <;> cases q
  · trivial
  · exact h
  · exact h
  · obtain ⟨a, cap, h1, h2, h3⟩ := h
    exact ⟨a, cap, h1, h2, fun k hk => ⟨(h3 k hk).1, fun h => (h3 k hk).2.1 (ho k (h3 k hk).1 (h3 k hk).2.2 h), hC k (h3 k hk).2.2⟩⟩

/-- A map of filters by keys: g tells what it has. -/
def KAt (w : World) (own C : Nat → Prop) (mi N : Nat) (g : List UInt8 → Option Fil) : Prop :=
  ∃ n f, MapR w 9 mi n f ∧ n ≤ N ∧ ∀ k, FilIs w own C (f (.string k)) (g k)
theorem KAt.mod {w w' : World} {F own C : Nat → Prop} {mi N : Nat} {g : List UInt8 → Option Fil} (h : KAt w own C mi N g) (hm : Mod F w w') (h1 : ¬ F mi) (hF : ∀ k, k < w.heap.size → F k → ¬ C k) : KAt w' own C mi N g := by
  obtain ⟨n, f, h2, h3, h4⟩ := h
  exact ⟨n, f, h2.mod hm h1, h3, fun k => (h4 k).mod2 hm hF⟩
theorem KAt.cong {w : World} {own own' C C' : Nat → Prop} {mi N N' : Nat} {g g' : List UInt8 → Option Fil} (h : KAt w own C mi N g) (ho : ∀ k, k < w.heap.size → C k → own' k → own k) (hC : ∀ k, C k → C' k) (hN : N ≤ N') (hg : ∀ k, g' k = g k) : KAt w own' C' mi N' g' := by
  obtain ⟨n, f, h2, h3, h4⟩ := h
  exact ⟨n, f, h2, Nat.le_trans h3 hN, fun k => by rw [hg]; exact (h4 k).cong ho hC⟩
theorem KAt.lt {w : World} {own C : Nat → Prop} {mi N : Nat} {g : List UInt8 → Option Fil} (h : KAt w own C mi N g) : mi < w.heap.size := by
  obtain ⟨n, f, h2, -⟩ := h
  exact h2.lt
/-- What stands in the outer map at a place. -/
def InAt (w : World) (own C : Nat → Prop) (b mo N : Nat) (g : List UInt8 → Option Fil) : Option Value → Prop
  | none => ∀ k, g k = none
  | some v => ∃ mi, v = .map (some mi) ∧ own mi ∧ mi ≠ b ∧ mi ≠ mo ∧ KAt w own C mi N g
theorem InAt.mod {w w' : World} {F own C : Nat → Prop} {b mo N : Nat} {g : List UInt8 → Option Fil} {v : Option Value} (h : InAt w own C b mo N g v) (hm : Mod F w w') (h1 : ∀ mi, v = some (.map (some mi)) → ¬ F mi) (hF : ∀ k, k < w.heap.size → F k → ¬ C k) : InAt w' own C b mo N g v := by
  cases v with
  | none => exact h
  | some v =>
    obtain ⟨mi, rfl, h2, h3, h4, h5⟩ := h
    exact ⟨mi, rfl, h2, h3, h4, h5.mod hm (h1 mi rfl) hF⟩
theorem InAt.cong {w : World} {own own' C C' : Nat → Prop} {b mo N N' : Nat} {g g' : List UInt8 → Option Fil} {v : Option Value} (h : InAt w own C b mo N g v) (ho : ∀ k, k < w.heap.size → C k → own' k → own k) (ho2 : ∀ k, own k → own' k) (hC : ∀ k, C k → C' k) (hN : N ≤ N') (hg : ∀ k, g' k = g k) : InAt w own' C' b mo N' g' v := by
  cases v with
  | none => exact fun k => (hg k).trans (h k)
  | some v =>
    obtain ⟨mi, rfl, h2, h3, h4, h5⟩ := h
    exact ⟨mi, rfl, ho2 mi h2, h3, h4, h5.cong ho hC hN hg⟩
/-- The outer map. -/
def OMap (w : World) (own C : Nat → Prop) (b mo N : Nat) (M : List (Int × Fil)) : Prop :=
  ∃ n f, MapR w 3 mo n f ∧ n ≤ N ∧ (∀ id : Int, InAt w own C b mo N (tabF M id) (f (.int .i64 id))) ∧ ∀ (x y : Int) mi, f (.int .i64 x) = some (.map (some mi)) → f (.int .i64 y) = some (.map (some mi)) → x = y
/-- A table in memory: its own blocks are those of 'own', those of its filters' conditions of C; N bounds what was ever added. -/
structure TabAt (w : World) (b mo : Nat) (own C : Nat → Prop) (M : List (Int × Fil)) (N : Nat) : Prop where
  row : w.heap[b]? = some (.cells #[.map (some mo)] 103 (0, 0))
  ob : own b ∧ own mo
  ne : b ≠ mo
  om : OMap w own C b mo N M
  nd : M.Pairwise fun p q => ¬ (p.1 = q.1 ∧ keyF p.2 = keyF q.2)
  low : M.length ≤ N
  dis : ∀ k, own k → ¬ C k
  olow : ∀ k, own k → k < w.heap.size
  clow : ∀ k, C k → k < w.heap.size
  wf : ∀ p ∈ M, (Lit.int .i64 p.1).wf = true ∧ p.2.2.length ≤ 19 ∧ ∀ c ∈ p.2.2, c.fits
  sc : ∀ p ∈ M, p.2.1.size ≤ 1000000
/-- A table. -/
def Tab (w : World) (b : Nat) (own C : Nat → Prop) (M : List (Int × Fil)) (N : Nat) : Prop := ∃ mo, TabAt w b mo own C M N
theorem OMap.mod {w w' : World} {F own C : Nat → Prop} {b mo N : Nat} {M : List (Int × Fil)} (h : OMap w own C b mo N M) (hm : Mod F w w') (h1 : ¬ F mo) (hF : ∀ k, k < w.heap.size → F k → ¬ own k ∧ ¬ C k) : OMap w' own C b mo N M := by
  obtain ⟨n, f, h2, h3, h4, h5⟩ := h
  refine ⟨n, f, h2.mod hm h1, h3, fun id => (h4 id).mod hm (fun mi hmi hf => ?_) (fun k hk hf => (hF k hk hf).2), h5⟩
  have h6 := h4 id
  rw [hmi] at h6
  obtain ⟨mi', e, h7, -, -, h8⟩ := h6
  cases e
  exact (hF mi h8.lt hf).1 h7
theorem TabAt.mod {w w' : World} {b mo : Nat} {own C F : Nat → Prop} {M : List (Int × Fil)} {N : Nat} (h : TabAt w b mo own C M N) (hm : Mod F w w') (hF : ∀ k, k < w.heap.size → F k → ¬ own k ∧ ¬ C k) : TabAt w' b mo own C M N :=
  have hn : ∀ k, own k → ¬ F k := fun k hk hf => (hF k (h.olow k hk) hf).1 hk
  ⟨hm.heap h.row (hn _ h.ob.1), h.ob, h.ne, h.om.mod hm (hn _ h.ob.2) hF, h.nd, h.low, h.dis, fun k hk => Nat.lt_of_lt_of_le (h.olow k hk) hm.size, fun k hk => Nat.lt_of_lt_of_le (h.clow k hk) hm.size, h.wf, h.sc⟩
theorem Tab.mod {w w' : World} {b : Nat} {own C F : Nat → Prop} {M : List (Int × Fil)} {N : Nat} (h : Tab w b own C M N) (hm : Mod F w w') (hF : ∀ k, k < w.heap.size → F k → ¬ own k ∧ ¬ C k) : Tab w' b own C M N := by
  obtain ⟨mo, h⟩ := h
  exact ⟨mo, h.mod hm hF⟩
theorem Tab.mod0 {w w' : World} {b : Nat} {own C F : Nat → Prop} {M : List (Int × Fil)} {N : Nat} (h : Tab w b own C M N) (hm : Mod F w w') (hF : ∀ k, k < w.heap.size → ¬ F k) : Tab w' b own C M N := h.mod hm (fun k hk hf => absurd hf (hF k hk))
theorem Tab.low {w : World} {b : Nat} {own C : Nat → Prop} {M : List (Int × Fil)} {N : Nat} (h : Tab w b own C M N) : (∀ k, own k → k < w.heap.size) ∧ ∀ k, C k → k < w.heap.size := by
  obtain ⟨mo, h⟩ := h
  exact ⟨h.olow, h.clow⟩

/-! ### What is in a table -/
theorem tabF_some {M : List (Int × Fil)} {id : Int} {k : List UInt8} {q : Fil} (h : tabF M id k = some q) : (id, q) ∈ M ∧ keyF q = k := by
  unfold tabF at h
  obtain ⟨p, h1, rfl⟩ := Option.map_eq_some_iff.1 h
  have h2 := List.find?_some h1
  simp only [Bool.and_eq_true, beq_iff_eq] at h2
  obtain ⟨x, q⟩ := p
  obtain ⟨rfl, h3⟩ := h2
  exact ⟨List.mem_of_find?_eq_some h1, h3⟩
theorem tabF_none {M : List (Int × Fil)} {id : Int} {k : List UInt8} (h : tabF M id k = none) : ∀ q, (id, q) ∈ M → keyF q ≠ k := fun q hq e => by
  unfold tabF at h
  rw [Option.map_eq_none_iff, List.find?_eq_none] at h
  have := h _ hq
  simp [e] at this
theorem tabF_mem {M : List (Int × Fil)} (hn : M.Pairwise fun p q => ¬ (p.1 = q.1 ∧ keyF p.2 = keyF q.2)) {id : Int} {q : Fil} (h : (id, q) ∈ M) : tabF M id (keyF q) = some q := by
  induction M with
  | nil => cases h
  | cons p M ih =>
    rw [List.pairwise_cons] at hn
    unfold tabF
    rw [List.find?_cons]
    rcases List.mem_cons.1 h with h | h
    · subst h; simp
    · have hne : (p.1 == id && keyF p.2 == keyF q) = false := by
        rw [Bool.eq_false_iff]
        intro e
        simp only [Bool.and_eq_true, beq_iff_eq] at e
        exact hn.1 _ h e
      rw [hne]
      exact ih hn.2 h
theorem tabF_new {M : List (Int × Fil)} {id : Int} {q : Fil} (h : tabF M id (keyF q) = none) (x : Int) (k : List UInt8) : tabF (M ++ [(id, q)]) x k = if x = id ∧ k = keyF q then some q else tabF M x k := by
  have h1 : tabF (M ++ [(id, q)]) x k = (tabF M x k).or (if x = id ∧ k = keyF q then some q else none) := by
    unfold tabF
    rw [List.find?_append]
    cases M.find? fun p => p.1 == x && keyF p.2 == k with
    | some p => rfl
    | none =>
      rw [Option.none_or, Option.map_none, Option.none_or, List.find?_cons]
      by_cases e : x = id ∧ k = keyF q
      · obtain ⟨rfl, rfl⟩ := e
        simp
      · rw [if_neg e]
        have : (id == x && keyF q == k) = false := by
          rw [Bool.eq_false_iff]
          intro h
          simp only [Bool.and_eq_true, beq_iff_eq] at h
          exact e ⟨h.1.symm, h.2.symm⟩
        simp [this]
  rw [h1]
  by_cases e : x = id ∧ k = keyF q
  · obtain ⟨rfl, rfl⟩ := e
    rw [h, if_pos ⟨rfl, rfl⟩]; rfl
  · rw [if_neg e, if_neg e, Option.or_none]
/-- Without one place's one key. -/
def tabD (M : List (Int × Fil)) (id : Int) (k : List UInt8) : List (Int × Fil) := M.filter fun p => !(p.1 == id && keyF p.2 == k)
theorem find_filter {α : Type} (l : List α) (p q : α → Bool) : (l.filter q).find? p = l.find? fun x => q x && p x := by
  induction l with
  | nil => rfl
  | cons a l ih =>
    rw [List.filter_cons, List.find?_cons]
    by_cases h : q a = true
    · rw [if_pos h, List.find?_cons, h, Bool.true_and, ih]
    · rw [if_neg h, ih]
      have : q a = false := by simpa using h
      simp [this]
theorem find_cong {α : Type} {l : List α} {p q : α → Bool} (h : ∀ x ∈ l, p x = q x) : l.find? p = l.find? q := by
  induction l with
  | nil => rfl
  | cons a l ih =>
    rw [List.find?_cons, List.find?_cons, h a (List.mem_cons_self ..), ih (fun x hx => h x (List.mem_cons_of_mem _ hx))]
theorem tabF_del (M : List (Int × Fil)) (id : Int) (k : List UInt8) (x : Int) (y : List UInt8) : tabF (tabD M id k) x y = if x = id ∧ y = k then none else tabF M x y := by
  unfold tabF tabD
  rw [find_filter]
  by_cases e : x = id ∧ y = k
  · obtain ⟨rfl, rfl⟩ := e
    rw [if_pos ⟨rfl, rfl⟩, Option.map_eq_none_iff, List.find?_eq_none]
    intro p _
    cases (p.1 == x && keyF p.2 == y) <;> simp
  · rw [if_neg e]
    congr 1
    refine find_cong fun p _ => ?_
    cases h : (p.1 == x && keyF p.2 == y) with
    | false => simp
    | true =>
      simp only [Bool.and_eq_true, beq_iff_eq] at h
      have : (p.1 == id && keyF p.2 == k) = false := by
        rw [Bool.eq_false_iff]
        intro h2
        simp only [Bool.and_eq_true, beq_iff_eq] at h2
        exact e ⟨h.1.symm.trans h2.1, h.2.symm.trans h2.2⟩
      simp [this]
/-- Without a place. -/
def tabX (M : List (Int × Fil)) (id : Int) : List (Int × Fil) := M.filter fun p => !(p.1 == id)
theorem tabF_drop (M : List (Int × Fil)) (id x : Int) (y : List UInt8) : tabF (tabX M id) x y = if x = id then none else tabF M x y := by
  unfold tabF tabX
  rw [find_filter]
  by_cases e : x = id
  · subst e
    rw [if_pos rfl, Option.map_eq_none_iff, List.find?_eq_none]
    intro p _
    cases (p.1 == x) <;> simp
  · rw [if_neg e]
    congr 1
    refine find_cong fun p _ => ?_
    by_cases h : p.1 = x
    · have : (p.1 == id) = false := by rw [beq_eq_false_iff_ne]; exact fun h2 => e (h.symm.trans h2)
      simp [this]
    · have : (p.1 == x) = false := by rw [beq_eq_false_iff_ne]; exact h
      simp [this]
end Go.Proofs.YtloplmaekonenaaGreatDoor
