/-
  What one condition asks of another one: sound, and an order (the plain law of conditions and filters).
  slices.DeleteFunc at the index's places.
  Package index: Remove.
  Package index: Match.
  The document's answer for filters: Under, Match, Covers.
  The index's law, in the plain: what Norm leaves asks for the same.
  The plain law of what a table tells: of the filters from elsewhere those that no other one covers.
  gazettelaw13.fit.
  Package event: New.
  Package acl: Right.
  The law's Event: one that may be, of attributes.
  What is right is small; the names of an event are unlike.
-/
import Derived.Test.YtloplmaekonenaaGreatDoorZe25
import Derived.Test.YtloplmaekonenaaGreatDoorZe24
import Derived.Test.YtloplmaekonenaaGreatDoorZe23
import Derived.Test.YtloplmaekonenaaGreatDoorZe20
import Derived.Test.YtloplmaekonenaaGreatDoorZe18
import Derived.Test.YtloplmaekonenaaGreatDoorZe30
import Derived.Test.YtloplmaekonenaaGreatDoorZe13
import Derived.Test.YtloplmaekonenaaGreatDoorZe4
import Derived.Test.YtloplmaekonenaaGreatDoorZe31
import Derived.Deep.DeepCutAuto
import Derived.Deep.CutBlock
namespace Go.Proofs.YtloplmaekonenaaGreatDoor
set_option maxRecDepth 20000
open Go.RowKit

/-! ### Numbers -/
/-! ### How values stand to one another -/
/-! ### Conditions -/
theorem prefB_iff {s p : ByteArray} : prefB s p = true ↔ p.data.toList <+: s.data.toList := List.isPrefixOf_iff_prefix
/-! ### Filters -/
/-- filter.Covers. -/
def covF (fs : ByteArray) (f : List Cnd) (gs : ByteArray) (g : List Cnd) : Bool := g.any Cnd.voidB || (f.all (fun c => g.any fun d => impB d c) && underB gs fs)
theorem underB_iff {s top : ByteArray} : underB s top = true ↔ top.data.toList = [] ∨ s = top ∨ ∃ r, s.data.toList = top.data.toList ++ 47 :: r := by
  unfold underB
  rw [Bool.or_eq_true, Bool.or_eq_true, Bool.and_eq_true, prefB_iff, List.isEmpty_iff, beq_iff_eq, beq_iff_eq]
  have e1 : top.toList = [] ↔ top.data.toList = [] := by rw [ByteArray.toList_eq]
  have e2 : s.toList = top.toList ↔ s = top := ⟨fun h => ByteArray.ext (Array.toList_inj.1 (by rwa [ByteArray.toList_eq, ByteArray.toList_eq] at h)), fun h => by rw [h]⟩
  rw [e1, e2]
  have hsz : top.size = top.data.toList.length := by show top.data.size = _; rw [Array.length_toList]
  constructor
  · rintro (h | h | ⟨⟨r, h1⟩, h2⟩)
    · exact .inl h
    · exact .inr (.inl h)
    · refine .inr (.inr ?_)
      rw [← h1, hsz, List.getElem?_append_right (Nat.le_refl _), Nat.sub_self] at h2
      cases r with
      | nil => cases h2
      | cons c r =>
        have : c = 47 := by simpa using h2
        exact ⟨r, by rw [← h1, this]⟩
  · rintro (h | h | ⟨r, h⟩)
    · exact .inl h
    · exact .inr (.inl h)
    · refine .inr (.inr ⟨⟨_, h.symm⟩, ?_⟩)
      rw [h, hsz, List.getElem?_append_right (Nat.le_refl _), Nat.sub_self]
      rfl
end Go.Proofs.YtloplmaekonenaaGreatDoor

namespace Go.Proofs.YtloplmaekonenaaGreatDoor
set_option maxRecDepth 20000
open Go.RowKit

/-- The cells of a list of things, by place. -/
theorem flat_at {α : Type} {f : α → List Value} {sz : Nat} (hf : ∀ a, (f a).length = sz) (l : List α) {k j : Nat} {a : α} {u : Value} (h : l[k]? = some a) (hj : (f a)[j]? = some u) : (l.flatMap f)[k * sz + j]? = some u := by
  induction l generalizing k with
  | nil => simp at h
  | cons b l ih =>
    rw [List.flatMap_cons]
    have hl := (List.getElem?_eq_some_iff.1 hj).1
    cases k with
    | zero =>
      simp only [List.getElem?_cons_zero, Option.some.injEq] at h
      subst h
      rw [List.getElem?_append_left (by omega), Nat.zero_mul, Nat.zero_add, hj]
    | succ k =>
      rw [List.getElem?_cons_succ] at h
      rw [List.getElem?_append_right (by rw [hf, Nat.add_mul]; omega), hf, show (k + 1) * sz + j - sz = k * sz + j by rw [Nat.add_mul]; omega]
      exact ih h
theorem rd_el {α : Type} {f : α → List Value} {sz : Nat} (hf : ∀ a, (f a).length = sz) {w : World} {a : Option Addr} {cap : Nat} {l : List α} {j : Nat} {x : α} (h : RdSl w sz (.slice a l.length cap) l.length (l.flatMap f)) (hx : l[j]? = some x) : ∃ g off, a = some ⟨g, off, none⟩ ∧ CellsAt w g (off + j * sz) (f x) := by
  obtain ⟨-, a', c', h1, -, h3, h4⟩ := h
  cases h1
  cases a with
  | none => have := (List.getElem?_eq_some_iff.1 hx).1; exact absurd (h3 rfl) (by omega)
  | some b =>
    obtain ⟨g', off', h5, h6⟩ := h4 _ rfl (by have := (List.getElem?_eq_some_iff.1 hx).1; omega)
    refine ⟨g', off', by rw [h5], fun i u hu => ?_⟩
    have := h6 (j * sz + i) u (flat_at hf _ hx hu)
    rw [Nat.add_assoc]
    exact this
theorem pl_struct : (match Tryz.prog.underlying 85 with | some (.struct _) => true | some (.array _ _) => true | _ => false) = true := by kernel_rfl
theorem pl_size : (Tryz.prog.info? 85).map (·.size) = some 8 := by kernel_rfl
theorem run_load_pl {ρ : Operand → Value} {dst : Option Tmp} {x : Operand} {type : TypeId} {pos : String} {after : Array Edge} {guard : Option (Nat × Bool)} {w : World} (h : AllV w (ρ x) 8) :
    Sem.run Tryz.prog (execOp ρ ⟨dst, .load 85 x, type, pos, after, guard⟩) w = .ok (.value (.agg (cellsV w (ρ x) 8))) w := run_load_all pl_struct pl_size h

attribute [local go_sem ↓] run_load_pl
end Go.Proofs.YtloplmaekonenaaGreatDoor

namespace Go.Proofs.YtloplmaekonenaaGreatDoor
set_option maxRecDepth 20000
open Go.RowKit

/-- Without a number. -/
def idxD (I : List (Int × Fil)) (id : Int) : List (Int × Fil) := I.filter fun p => !(p.1 == id)
theorem idxF_del (I : List (Int × Fil)) (id x : Int) : idxF (idxD I id) x = if x = id then none else idxF I x := by
  unfold idxF idxD
  induction I with
  | nil => simp
  | cons p I ih =>
    rw [List.filter_cons, List.find?_cons]
    by_cases hp : p.1 = id
    · have h1 : (!(p.1 == id)) = false := by rw [hp]; simp
      rw [h1, if_neg (by decide), ih]
      by_cases hx : x = id
      · rw [if_pos hx, if_pos hx]
      · have h2 : (p.1 == x) = false := by rw [beq_eq_false_iff_ne]; exact fun e => hx (e ▸ hp)
        rw [if_neg hx, if_neg hx, h2]
    · have h1 : (!(p.1 == id)) = true := by simp [hp]
      rw [h1, if_pos rfl, List.find?_cons]
      cases h3 : p.1 == x with
      | true =>
        rw [beq_iff_eq] at h3
        rw [if_neg (fun e => hp (h3.trans e))]
      | false => exact ih
theorem FMap.del {w w4 : World} {m1 : Nat} {own C : Nat → Prop} {I : List (Int × Fil)} {f : Lit → Option Value} {id : Int} (h2 : ∀ id : Int, FilIs w own C (f (.int .i64 id)) (idxF I id)) (h6 : MapR w4 3 m1 (idxD I id).length (delF f (.int .i64 id))) (hm : Mod (fun k => k = m1) w w4) (hm1 : own m1) : FMap w4 m1 own C (idxD I id) := by
  refine ⟨_, h6, fun x => ?_⟩
  rw [idxF_del]
  unfold delF
  by_cases e : x = id
  · rw [if_pos e, if_pos (by rw [e])]; trivial
  · rw [if_neg e, if_neg (fun h => e (Lit.int.inj h).2)]
    exact (h2 x).mod hm (fun k _ e => e ▸ hm1)
/-- What Remove reads first. -/
def RemS (b m1 cb n : Nat) (id : Int) (f : Lit → Option Value) (r : Value) (y : World) : Prop :=
  y.cell? ⟨b, 0, none⟩ = some (.map (some m1)) ∧ y.cell? ⟨cb, 0, none⟩ = some (.int .i64 id) ∧ MapR y 3 m1 n f ∧ (Instr.lookup 26 (.map (some m1)) (.int .i64 id) true).run Tryz.prog y = .ok r y
theorem RemS.mod {b m1 cb n : Nat} {id : Int} {f : Lit → Option Value} {r : Value} {y z : World} {F : Nat → Prop} (h : RemS b m1 cb n id f r y) (hid : (Lit.int .i64 id).wf = true) (hr : r = .tuple #[(f (.int .i64 id)).getD (.agg #[.string ⟨#[]⟩, .slice none 0 0]), .bool (f (.int .i64 id)).isSome])
    (hm : Mod F y z) (h1 : ¬ F b) (h2 : ¬ F cb) (h3 : ¬ F m1) : RemS b m1 cb n id f r z := by
  refine ⟨hm.cell h.1 h1, hm.cell h.2.1 h2, h.2.2.1.mod hm h3, ?_⟩
  rw [hr]
  exact (h.2.2.1.mod hm h3).look_ok keyed_i Tryz.underlying26 (zero_fil z) (Maps.keyOf_int_mk Tryz.underlying3 hid)

attribute [local go_sem ↓] run_load_cd
end Go.Proofs.YtloplmaekonenaaGreatDoor

namespace Go.Proofs.YtloplmaekonenaaGreatDoor
set_option maxRecDepth 20000
open Go.RowKit

/-- The map of counts. -/
def CntR (w : World) (mc K : Nat) (g : Int → Nat) : Prop := ∃ n f, MapR w 3 mc n f ∧ n ≤ K ∧ (∀ id : Int, (f (.int .i64 id)).getD (.int .i64 0) = .int .i64 (g id)) ∧ ∀ id, g id ≤ K
theorem CntR.mod {w w' : World} {mc K : Nat} {g : Int → Nat} {F : Nat → Prop} (h : CntR w mc K g) (hm : Mod F w w') (hF : ¬ F mc) : CntR w' mc K g := by
  obtain ⟨n, f, h1, h2⟩ := h
  exact ⟨n, f, h1.mod hm hF, h2⟩
theorem CntR.cong {w : World} {mc K K' : Nat} {g g' : Int → Nat} (h : CntR w mc K g) (hK : K ≤ K') (hg : ∀ id, g' id = g id) : CntR w mc K' g' := by
  obtain ⟨n, f, h1, h2, h3, h4⟩ := h
  exact ⟨n, f, h1, Nat.le_trans h2 hK, fun id => by rw [hg]; exact h3 id, fun id => by rw [hg]; exact Nat.le_trans (h4 id) hK⟩
theorem CellsAt.part {w : World} {g off : Nat} {l m : List Value} (h : CellsAt w g off (l ++ m)) {n : Nat} (hn : l.length = n) : CellsAt w g (off + n) m := fun j u hu => by
  have := h (n + j) u (by rw [List.getElem?_append_right (by omega), ← hn, Nat.add_sub_cancel_left]; exact hu)
  rwa [← Nat.add_assoc] at this
attribute [local go_sem ↓] run_load_cd
end Go.Proofs.YtloplmaekonenaaGreatDoor

namespace Go.Proofs.YtloplmaekonenaaGreatDoor
set_option maxRecDepth 20000
open Go.RowKit

theorem cond_struct : (match Tryz.prog.underlying 81 with | some (.struct _) => true | some (.array _ _) => true | _ => false) = true := by kernel_rfl
theorem run_load_cnd {ρ : Operand → Value} {dst : Option Tmp} {x : Operand} {type : TypeId} {pos : String} {after : Array Edge} {guard : Option (Nat × Bool)} {w : World} (h : AllV w (ρ x) 7) :
    Sem.run Tryz.prog (execOp ρ ⟨dst, .load 81 x, type, pos, after, guard⟩) w = .ok (.value (.agg (cellsV w (ρ x) 7))) w := run_load_all cond_struct cnd_size h

attribute [local go_sem ↓] run_load_cnd

end Go.Proofs.YtloplmaekonenaaGreatDoor

namespace Go.Proofs.YtloplmaekonenaaGreatDoor
set_option maxRecDepth 20000
open Go.RowKit

theorem norm_name (c : Cnd) : c.norm.name = c.name := by unfold Cnd.norm; split <;> rfl
theorem norm_op (c : Cnd) : c.norm.op = c.op := by
  unfold Cnd.norm
  split
  · rename_i h; exact h.symm
  · rfl

/-! What is needless: each condition of a list follows from one that is kept. -/
/-! Counting: of unlike names a condition is met at most once. -/
/-- What a condition must be like. -/
structure Cnd.whole (c : Cnd) : Prop where
  op : 0 ≤ c.op ∧ c.op ≤ 7
  kind : 0 ≤ c.v.kind ∧ c.v.kind ≤ 3
  num : c.v.num < 2 ^ 64
end Go.Proofs.YtloplmaekonenaaGreatDoor

namespace Go.Proofs.YtloplmaekonenaaGreatDoor
set_option maxRecDepth 20000
open Go.RowKit Go.Sort

/-- Each once. -/
def onceS : List (List UInt8) → List (List UInt8)
  | [] => []
  | k :: l => if k ∈ onceS l then onceS l else k :: onceS l
theorem onceS_mem {l : List (List UInt8)} {k : List UInt8} : k ∈ onceS l ↔ k ∈ l := by
  induction l generalizing k with
  | nil => exact Iff.rfl
  | cons a l ih =>
    unfold onceS
    split
    · rename_i h
      rw [ih, List.mem_cons]
      exact ⟨.inr, fun h2 => h2.elim (fun e => by rw [e]; exact ih.1 h) id⟩
    · rw [List.mem_cons, List.mem_cons, ih]
theorem onceS_nodup (l : List (List UInt8)) : (onceS l).Nodup := by
  induction l with
  | nil => exact List.nodup_nil
  | cons a l ih =>
    unfold onceS
    split
    · exact ih
    · rename_i h
      exact List.nodup_cons.2 ⟨h, ih⟩
/-- What all places but one have under a key. -/
def allF (M : List (Int × Fil)) (td : Int) (k : List UInt8) : Option Fil := (M.find? fun p => !(p.1 == td) && keyF p.2 == k).map Prod.snd
/-- Their keys, rising, each once. -/
def allK (M : List (Int × Fil)) (td : Int) : List (List UInt8) := riseS (onceS ((M.filter fun p => !(p.1 == td)).map fun p => keyF p.2))
/-- Does a filter cover another one? -/
def covQ (f g : Fil) : Bool := covF f.1 f.2 g.1 g.2
/-- Is one covered by another one that it doesn't cover itself, or with a lesser key? -/
def covdF (g : List UInt8 → Option Fil) (ks : List (List UInt8)) (k : List UInt8) (f : Fil) : Bool :=
  ks.any fun j => match g j with | some h => decide (j ≠ k) && (covQ h f && (decide (j < k) || !covQ f h)) | none => false
/-- What is told. -/
def outL (M : List (Int × Fil)) (td : Int) : List Fil := (allK M td).filterMap fun k => (allF M td k).filter fun f => !covdF (allF M td) (allK M td) k f

theorem riseS_mem {L : List (List UInt8)} {x : List UInt8} : x ∈ riseS L ↔ x ∈ L := (List.mergeSort_perm L leB).mem_iff
theorem riseS_lt {L : List (List UInt8)} (h : L.Nodup) : (riseS L).Pairwise (· < ·) := by
  have h1 : (riseS L).Pairwise (fun a b => leB a b = true) := by
    unfold riseS
    refine List.pairwise_mergeSort (fun a b c h1 h2 => ?_) (fun a b => ?_) L
    · unfold leB at *
      simp only [decide_eq_true_eq] at *
      exact List.le_trans h1 h2
    · unfold leB
      simp only [Bool.or_eq_true, decide_eq_true_eq]
      exact List.le_total a b
  have h2 : (riseS L).Nodup := (List.mergeSort_perm L leB).nodup_iff.2 h
  refine (h1.and h2).imp fun {a b} h => ?_
  have h3 : a ≤ b := by
    have := h.1
    unfold leB at this
    simpa using this
  exact Classical.byContradiction fun h4 => h.2 (List.le_antisymm h3 h4)
theorem allF_some {M : List (Int × Fil)} {td : Int} {k : List UInt8} {q : Fil} (h : allF M td k = some q) : keyF q = k ∧ ∃ x, x ≠ td ∧ (x, q) ∈ M := by
  unfold allF at h
  obtain ⟨p, h1, rfl⟩ := Option.map_eq_some_iff.1 h
  have h2 := List.find?_some h1
  simp only [Bool.and_eq_true, beq_iff_eq, Bool.not_eq_true', beq_eq_false_iff_ne] at h2
  exact ⟨h2.2, p.1, h2.1, List.mem_of_find?_eq_some h1⟩
theorem allF_has {M : List (Int × Fil)} {td x : Int} {q : Fil} (h : (x, q) ∈ M) (hx : x ≠ td) : ∃ r, allF M td (keyF q) = some r := by
  cases h1 : allF M td (keyF q) with
  | some r => exact ⟨r, rfl⟩
  | none =>
    unfold allF at h1
    rw [Option.map_eq_none_iff, List.find?_eq_none] at h1
    have := h1 _ h
    simp [hx] at this
theorem allK_mem {M : List (Int × Fil)} {td : Int} {k : List UInt8} : k ∈ allK M td ↔ ∃ q, allF M td k = some q := by
  unfold allK
  rw [riseS_mem, onceS_mem]
  constructor
  · intro h
    obtain ⟨p, h1, rfl⟩ := List.mem_map.1 h
    obtain ⟨h1, h2⟩ := List.mem_filter.1 h1
    exact allF_has (x := p.1) h1 (by simpa using h2)
  · rintro ⟨q, h⟩
    obtain ⟨rfl, x, h1, h2⟩ := allF_some h
    exact List.mem_map.2 ⟨(x, q), List.mem_filter.2 ⟨h2, by simpa using h1⟩, rfl⟩
theorem allK_lt (M : List (Int × Fil)) (td : Int) : (allK M td).Pairwise (· < ·) := riseS_lt (onceS_nodup _)
theorem outL_mem {M : List (Int × Fil)} {td : Int} {f : Fil} (h : f ∈ outL M td) : allF M td (keyF f) = some f ∧ covdF (allF M td) (allK M td) (keyF f) f = false := by
  unfold outL at h
  obtain ⟨k, h1, h2⟩ := List.mem_filterMap.1 h
  obtain ⟨h3, h4⟩ := Option.filter_eq_some_iff.1 h2
  obtain ⟨rfl, -⟩ := allF_some h3
  exact ⟨h3, by simpa using h4⟩
theorem outL_lt (M : List (Int × Fil)) (td : Int) : (outL M td).Pairwise fun a b => keyF a < keyF b := by
  unfold outL
  rw [List.pairwise_filterMap]
  refine (allK_lt M td).imp fun {a b} h f hf g hg => ?_
  obtain ⟨h3, -⟩ := Option.filter_eq_some_iff.1 hf
  obtain ⟨h4, -⟩ := Option.filter_eq_some_iff.1 hg
  rw [(allF_some h3).1, (allF_some h4).1]
  exact h
theorem covd_no {g : List UInt8 → Option Fil} {ks : List (List UInt8)} {k j : List UInt8} {f h : Fil} (hn : covdF g ks k f = false) (hj : j ∈ ks) (hg : g j = some h) (hne : j ≠ k) (hc : covQ h f = true) : ¬ j < k ∧ covQ f h = true := by
  unfold covdF at hn
  rw [List.any_eq_false] at hn
  have := hn j hj
  rw [hg] at this
  simp only [hc, Bool.true_and, Bool.and_eq_true, decide_eq_true_eq, Bool.or_eq_true, Bool.not_eq_true', not_and] at this
  have h2 := this hne
  refine ⟨fun h => h2 (.inl h), ?_⟩
  cases hcf : covQ f h with
  | true => rfl
  | false => exact absurd (.inr hcf) h2
end Go.Proofs.YtloplmaekonenaaGreatDoor

namespace Go.Proofs.YtloplmaekonenaaGreatDoor
set_option maxRecDepth 20000
open Go.RowKit

theorem fit_right : filRight ⟨#[]⟩ [] = true := by decide +kernel
theorem normC_nil : normC [] = [] := by decide +kernel
end Go.Proofs.YtloplmaekonenaaGreatDoor

namespace Go.Proofs.YtloplmaekonenaaGreatDoor
set_option maxRecDepth 20000
open Go.RowKit

def Att.canon (a : Att) : Att := ⟨a.name, a.v.canon⟩
end Go.Proofs.YtloplmaekonenaaGreatDoor

namespace Go.Proofs.YtloplmaekonenaaGreatDoor
set_option maxRecDepth 20000
open Go.RowKit

/-- May it be a rule, as far as it tells by itself? -/
def Ru.rightB (r : Ru) : Bool :=
  if r.kind = 4 then decide (0 ≤ r.at_) else
  if r.kind < 0 ∨ 4 < r.kind ∨ r.tenant < 0 ∨ 4 ≤ r.tenant ∨ isName r.who = false then false else
  if r.kind = 0 then decide (0 ≤ r.broker) && decide (r.broker < 6) else
  if r.kind = 3 then isName r.name && scRight r.sc else filRight r.sc r.cs

end Go.Proofs.YtloplmaekonenaaGreatDoor

namespace Go.Proofs.YtloplmaekonenaaGreatDoor
set_option maxRecDepth 20000
open Go.RowKit

theorem rises_pair {l : List Att} : rises l ↔ l.Pairwise (fun x y => Op.bytesLess x.name.data.toList y.name.data.toList = true) := by
  rw [List.pairwise_iff_getElem]
  constructor
  · intro h i j hi hj hij
    exact h i j _ _ hij (List.getElem?_eq_getElem hi) (List.getElem?_eq_getElem hj)
  · intro h i j x y hij hx hy
    obtain ⟨h1, rfl⟩ := List.getElem?_eq_some_iff.1 hx
    obtain ⟨h2, rfl⟩ := List.getElem?_eq_some_iff.1 hy
    exact h i j h1 h2 hij
theorem rises.sub {l m : List Att} (h : rises l) (hs : m.Sublist l) : rises m := rises_pair.2 ((rises_pair.1 h).sublist hs)
end Go.Proofs.YtloplmaekonenaaGreatDoor

namespace Go.Proofs.YtloplmaekonenaaGreatDoor
set_option maxRecDepth 20000
open Go.RowKit

theorem nm_size {s : ByteArray} (h : isName s = true) : s.size ≤ 12 := by
  unfold isName at h
  simp only [Bool.and_eq_true, decide_eq_true_eq] at h
  exact h.2.2
theorem cut_sz (s : ByteArray) : s.size ≤ (cutS s).1.size + 1 + (cutS s).2.1.size := by
  unfold cutS
  split
  · simp only [ByteArray.size_extract]
    omega
  · show s.size ≤ s.size + 1 + _
    omega
theorem scN_size : ∀ (f : Nat) (s : ByteArray) (k : Nat), scN f s = some k → s.size ≤ 13 * k
  | 0, s, k, h => by cases h
  | f + 1, s, k, h => by
    rw [scN_succ] at h
    have hc := cut_sz s
    by_cases h1 : isName (cutS s).1 = true
    · rw [if_pos h1] at h
      have hn := nm_size h1
      by_cases h2 : (cutS s).2.2 = true
      · rw [if_pos h2] at h
        cases h3 : scN f (cutS s).2.1 with
        | none => rw [h3] at h; cases h
        | some k' =>
          rw [h3] at h
          have h4 : k' + 1 = k := by simpa using h
          have := scN_size f _ k' h3
          omega
      · rw [if_neg h2] at h
        have h4 : (cutS s).1 = s := by
          unfold cutS at h2 ⊢
          split
          · rename_i h5; rw [if_pos h5] at h2; exact absurd rfl h2
          · rfl
        rw [h4] at hn
        have h4 : 1 = k := by simpa using h
        omega
    · rw [if_neg h1] at h; cases h
theorem scRight_size {s : ByteArray} (h : scRight s = true) : s.size ≤ 52 := by
  unfold scRight at h
  rw [Bool.or_eq_true] at h
  rcases h with h | h
  · rw [List.isEmpty_iff, ByteArray.toList_eq] at h
    have : s.size = s.data.toList.length := by rw [Array.length_toList]; rfl
    rw [this, h]
    exact Nat.zero_le _
  · unfold scM at h
    cases h1 : scN (s.size + 1) s with
    | none => rw [h1] at h; cases h
    | some k =>
      rw [h1] at h
      have := scN_size _ _ _ h1
      simp only [decide_eq_true_eq] at h
      omega
/-- What a right filter is like. -/
theorem fil_bounds {sc : ByteArray} {l : List Cnd} (h : filRight sc l = true) : sc.size ≤ 52 ∧ l.length ≤ 6 ∧ ∀ c ∈ l, c.name.size ≤ 12 ∧ (0 ≤ c.op ∧ c.op ≤ 7) ∧ (0 ≤ c.v.kind ∧ c.v.kind ≤ 3) ∧ c.v.text.size ≤ 40 := by
  unfold filRight at h
  simp only [Bool.and_eq_true, List.all_eq_true, decide_eq_true_eq] at h
  refine ⟨scRight_size h.2.1, h.2.2, fun c hc => ?_⟩
  have h1 := h.1 c hc
  unfold Cnd.rightB V.right at h1
  simp only [Bool.and_eq_true, decide_eq_true_eq] at h1
  exact ⟨nm_size h1.1, ⟨h1.2.1, h1.2.2.1⟩, ⟨h1.2.2.2.1, h1.2.2.2.2.1⟩, h1.2.2.2.2.2⟩
end Go.Proofs.YtloplmaekonenaaGreatDoor
