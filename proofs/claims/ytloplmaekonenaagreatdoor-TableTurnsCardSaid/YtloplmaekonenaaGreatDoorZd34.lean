/-
  What one condition asks of another one: sound, and an order (the plain law of conditions and filters).
  slices.DeleteFunc at the index's places.
  Package index: Remove.
  Package index: Match.
  The document's answer for filters: Under, Match, Covers.
  The index's law, in the plain: what Norm leaves asks for the same.
  The plain law of what a table tells: of the filters from elsewhere those that no other one covers.
  Package event: New.
  Package acl: Right.
  What is right is small; the names of an event are unlike.
  Few rules, and short ones.
  The low sixteen bits.
  gazettelaw13.IndexGoes.
-/
import Derived.Test.YtloplmaekonenaaGreatDoorZd25
import Derived.Test.YtloplmaekonenaaGreatDoorZd24
import Derived.Test.YtloplmaekonenaaGreatDoorZd23
import Derived.Test.YtloplmaekonenaaGreatDoorZd20
import Derived.Test.YtloplmaekonenaaGreatDoorZd18
import Derived.Test.YtloplmaekonenaaGreatDoorZd30
import Derived.Test.YtloplmaekonenaaGreatDoorZd13
import Derived.Test.YtloplmaekonenaaGreatDoorZd4
import Derived.Test.YtloplmaekonenaaGreatDoorZd31
namespace Go.Proofs.YtloplmaekonenaaGreatDoor
set_option maxRecDepth 20000
open Go.RowKit

/-! ### Numbers -/
/-! ### How values stand to one another -/
/-! ### Conditions -/
/-! ### Filters -/
/-- filter.Covers. -/
def covF (fs : ByteArray) (f : List Cnd) (gs : ByteArray) (g : List Cnd) : Bool := g.any Cnd.voidB || (f.all (fun c => g.any fun d => impB d c) && underB gs fs)
end Go.Proofs.YtloplmaekonenaaGreatDoor

namespace Go.Proofs.YtloplmaekonenaaGreatDoor
set_option maxRecDepth 20000
open Go.RowKit

/-- The cells of a list of things, by place. -/
theorem flat_at {α : Type} {f : α → List Value} {sz : Nat} (hf : ∀ a, (f a).length = sz) (l : List α) {k j : Nat} {a : α} {u : Value} (h : l[k]? = some a) (hj : (f a)[j]? = some u) : (l.flatMap f)[k * sz + j]? = some u := by
  induction l generalizing k with
  | nil => simp at h
  | cons b l ih =>
    rw [List.flatMap_cons]
    have hl := (List.getElem?_eq_some_iff.1 hj).1
    cases k with
    | zero =>
      simp only [List.getElem?_cons_zero, Option.some.injEq] at h
      subst h
      rw [List.getElem?_append_left (by omega), Nat.zero_mul, Nat.zero_add, hj]
    | succ k =>
      rw [List.getElem?_cons_succ] at h
      rw [List.getElem?_append_right (by rw [hf, Nat.add_mul]; omega), hf, show (k + 1) * sz + j - sz = k * sz + j by rw [Nat.add_mul]; omega]
      exact ih h
theorem rd_el {α : Type} {f : α → List Value} {sz : Nat} (hf : ∀ a, (f a).length = sz) {w : World} {a : Option Addr} {cap : Nat} {l : List α} {j : Nat} {x : α} (h : RdSl w sz (.slice a l.length cap) l.length (l.flatMap f)) (hx : l[j]? = some x) : ∃ g off, a = some ⟨g, off, none⟩ ∧ CellsAt w g (off + j * sz) (f x) := by
  obtain ⟨-, a', c', h1, -, h3, h4⟩ := h
  cases h1
  cases a with
  | none => have := (List.getElem?_eq_some_iff.1 hx).1; exact absurd (h3 rfl) (by omega)
  | some b =>
    obtain ⟨g', off', h5, h6⟩ := h4 _ rfl (by have := (List.getElem?_eq_some_iff.1 hx).1; omega)
    refine ⟨g', off', by rw [h5], fun i u hu => ?_⟩
    have := h6 (j * sz + i) u (flat_at hf _ hx hu)
    rw [Nat.add_assoc]
    exact this
theorem pl_struct : (match Tryz.prog.underlying 85 with | some (.struct _) => true | some (.array _ _) => true | _ => false) = true := by kernel_rfl
theorem pl_size : (Tryz.prog.info? 85).map (·.size) = some 8 := by kernel_rfl
theorem run_load_pl {ρ : Operand → Value} {dst : Option Tmp} {x : Operand} {type : TypeId} {pos : String} {after : Array Edge} {guard : Option (Nat × Bool)} {w : World} (h : AllV w (ρ x) 8) :
    Sem.run Tryz.prog (execOp ρ ⟨dst, .load 85 x, type, pos, after, guard⟩) w = .ok (.value (.agg (cellsV w (ρ x) 8))) w := run_load_all pl_struct pl_size h

attribute [local go_sem ↓] run_load_pl
end Go.Proofs.YtloplmaekonenaaGreatDoor

namespace Go.Proofs.YtloplmaekonenaaGreatDoor
set_option maxRecDepth 20000
open Go.RowKit

/-- Without a number. -/
def idxD (I : List (Int × Fil)) (id : Int) : List (Int × Fil) := I.filter fun p => !(p.1 == id)
theorem idxF_del (I : List (Int × Fil)) (id x : Int) : idxF (idxD I id) x = if x = id then none else idxF I x := by
  unfold idxF idxD
  induction I with
  | nil => simp
  | cons p I ih =>
    rw [List.filter_cons, List.find?_cons]
    by_cases hp : p.1 = id
    · have h1 : (!(p.1 == id)) = false := by rw [hp]; simp
      rw [h1, if_neg (by decide), ih]
      by_cases hx : x = id
      · rw [if_pos hx, if_pos hx]
      · have h2 : (p.1 == x) = false := by rw [beq_eq_false_iff_ne]; exact fun e => hx (e ▸ hp)
        rw [if_neg hx, if_neg hx, h2]
    · have h1 : (!(p.1 == id)) = true := by simp [hp]
      rw [h1, if_pos rfl, List.find?_cons]
      cases h3 : p.1 == x with
      | true =>
        rw [beq_iff_eq] at h3
        rw [if_neg (fun e => hp (h3.trans e))]
      | false => exact ih
theorem FMap.del {w w4 : World} {m1 : Nat} {own C : Nat → Prop} {I : List (Int × Fil)} {f : Lit → Option Value} {id : Int} (h2 : ∀ id : Int, FilIs w own C (f (.int .i64 id)) (idxF I id)) (h6 : MapR w4 3 m1 (idxD I id).length (delF f (.int .i64 id))) (hm : Mod (fun k => k = m1) w w4) (hm1 : own m1) : FMap w4 m1 own C (idxD I id) := by
  refine ⟨_, h6, fun x => ?_⟩
  rw [idxF_del]
  unfold delF
  by_cases e : x = id
  · rw [if_pos e, if_pos (by rw [e])]; trivial
  · rw [if_neg e, if_neg (fun h => e (Lit.int.inj h).2)]
    exact (h2 x).mod hm (fun k _ e => e ▸ hm1)
/-- What Remove reads first. -/
def RemS (b m1 cb n : Nat) (id : Int) (f : Lit → Option Value) (r : Value) (y : World) : Prop :=
  y.cell? ⟨b, 0, none⟩ = some (.map (some m1)) ∧ y.cell? ⟨cb, 0, none⟩ = some (.int .i64 id) ∧ MapR y 3 m1 n f ∧ (Instr.lookup 26 (.map (some m1)) (.int .i64 id) true).run Tryz.prog y = .ok r y
theorem RemS.mod {b m1 cb n : Nat} {id : Int} {f : Lit → Option Value} {r : Value} {y z : World} {F : Nat → Prop} (h : RemS b m1 cb n id f r y) (hid : (Lit.int .i64 id).wf = true) (hr : r = .tuple #[(f (.int .i64 id)).getD (.agg #[.string ⟨#[]⟩, .slice none 0 0]), .bool (f (.int .i64 id)).isSome])
    (hm : Mod F y z) (h1 : ¬ F b) (h2 : ¬ F cb) (h3 : ¬ F m1) : RemS b m1 cb n id f r z := by
  refine ⟨hm.cell h.1 h1, hm.cell h.2.1 h2, h.2.2.1.mod hm h3, ?_⟩
  rw [hr]
  exact (h.2.2.1.mod hm h3).look_ok keyed_i Tryz.underlying26 (zero_fil z) (Maps.keyOf_int_mk Tryz.underlying3 hid)

attribute [local go_sem ↓] run_load_cd
end Go.Proofs.YtloplmaekonenaaGreatDoor

namespace Go.Proofs.YtloplmaekonenaaGreatDoor
set_option maxRecDepth 20000
open Go.RowKit

/-- The map of counts. -/
def CntR (w : World) (mc K : Nat) (g : Int → Nat) : Prop := ∃ n f, MapR w 3 mc n f ∧ n ≤ K ∧ (∀ id : Int, (f (.int .i64 id)).getD (.int .i64 0) = .int .i64 (g id)) ∧ ∀ id, g id ≤ K
theorem CntR.mod {w w' : World} {mc K : Nat} {g : Int → Nat} {F : Nat → Prop} (h : CntR w mc K g) (hm : Mod F w w') (hF : ¬ F mc) : CntR w' mc K g := by
  obtain ⟨n, f, h1, h2⟩ := h
  exact ⟨n, f, h1.mod hm hF, h2⟩
theorem CntR.cong {w : World} {mc K K' : Nat} {g g' : Int → Nat} (h : CntR w mc K g) (hK : K ≤ K') (hg : ∀ id, g' id = g id) : CntR w mc K' g' := by
  obtain ⟨n, f, h1, h2, h3, h4⟩ := h
  exact ⟨n, f, h1, Nat.le_trans h2 hK, fun id => by rw [hg]; exact h3 id, fun id => by rw [hg]; exact Nat.le_trans (h4 id) hK⟩
theorem CellsAt.part {w : World} {g off : Nat} {l m : List Value} (h : CellsAt w g off (l ++ m)) {n : Nat} (hn : l.length = n) : CellsAt w g (off + n) m := fun j u hu => by
  have := h (n + j) u (by rw [List.getElem?_append_right (by omega), ← hn, Nat.add_sub_cancel_left]; exact hu)
  rwa [← Nat.add_assoc] at this
attribute [local go_sem ↓] run_load_cd
end Go.Proofs.YtloplmaekonenaaGreatDoor

namespace Go.Proofs.YtloplmaekonenaaGreatDoor
set_option maxRecDepth 20000
open Go.RowKit

theorem cond_struct : (match Tryz.prog.underlying 81 with | some (.struct _) => true | some (.array _ _) => true | _ => false) = true := by kernel_rfl
theorem run_load_cnd {ρ : Operand → Value} {dst : Option Tmp} {x : Operand} {type : TypeId} {pos : String} {after : Array Edge} {guard : Option (Nat × Bool)} {w : World} (h : AllV w (ρ x) 7) :
    Sem.run Tryz.prog (execOp ρ ⟨dst, .load 81 x, type, pos, after, guard⟩) w = .ok (.value (.agg (cellsV w (ρ x) 7))) w := run_load_all cond_struct cnd_size h

attribute [local go_sem ↓] run_load_cnd

end Go.Proofs.YtloplmaekonenaaGreatDoor

namespace Go.Proofs.YtloplmaekonenaaGreatDoor
set_option maxRecDepth 20000
open Go.RowKit

theorem norm_name (c : Cnd) : c.norm.name = c.name := by unfold Cnd.norm; split <;> rfl
theorem norm_op (c : Cnd) : c.norm.op = c.op := by
  unfold Cnd.norm
  split
  · rename_i h; exact h.symm
  · rfl

/-! What is needless: each condition of a list follows from one that is kept. -/
/-! Counting: of unlike names a condition is met at most once. -/
/-- What a condition must be like. -/
structure Cnd.whole (c : Cnd) : Prop where
  op : 0 ≤ c.op ∧ c.op ≤ 7
  kind : 0 ≤ c.v.kind ∧ c.v.kind ≤ 3
  num : c.v.num < 2 ^ 64
end Go.Proofs.YtloplmaekonenaaGreatDoor

namespace Go.Proofs.YtloplmaekonenaaGreatDoor
set_option maxRecDepth 20000
open Go.RowKit Go.Sort

/-- Each once. -/
def onceS : List (List UInt8) → List (List UInt8)
  | [] => []
  | k :: l => if k ∈ onceS l then onceS l else k :: onceS l
theorem onceS_mem {l : List (List UInt8)} {k : List UInt8} : k ∈ onceS l ↔ k ∈ l := by
  induction l generalizing k with
  | nil => exact Iff.rfl
  | cons a l ih =>
    unfold onceS
    split
    · rename_i h
      rw [ih, List.mem_cons]
      exact ⟨.inr, fun h2 => h2.elim (fun e => by rw [e]; exact ih.1 h) id⟩
    · rw [List.mem_cons, List.mem_cons, ih]
theorem onceS_nodup (l : List (List UInt8)) : (onceS l).Nodup := by
  induction l with
  | nil => exact List.nodup_nil
  | cons a l ih =>
    unfold onceS
    split
    · exact ih
    · rename_i h
      exact List.nodup_cons.2 ⟨h, ih⟩
/-- What all places but one have under a key. -/
def allF (M : List (Int × Fil)) (td : Int) (k : List UInt8) : Option Fil := (M.find? fun p => !(p.1 == td) && keyF p.2 == k).map Prod.snd
/-- Their keys, rising, each once. -/
def allK (M : List (Int × Fil)) (td : Int) : List (List UInt8) := riseS (onceS ((M.filter fun p => !(p.1 == td)).map fun p => keyF p.2))
/-- Does a filter cover another one? -/
def covQ (f g : Fil) : Bool := covF f.1 f.2 g.1 g.2
/-- Is one covered by another one that it doesn't cover itself, or with a lesser key? -/
def covdF (g : List UInt8 → Option Fil) (ks : List (List UInt8)) (k : List UInt8) (f : Fil) : Bool :=
  ks.any fun j => match g j with | some h => decide (j ≠ k) && (covQ h f && (decide (j < k) || !covQ f h)) | none => false
/-- What is told. -/
def outL (M : List (Int × Fil)) (td : Int) : List Fil := (allK M td).filterMap fun k => (allF M td k).filter fun f => !covdF (allF M td) (allK M td) k f

theorem riseS_mem {L : List (List UInt8)} {x : List UInt8} : x ∈ riseS L ↔ x ∈ L := (List.mergeSort_perm L leB).mem_iff
theorem riseS_lt {L : List (List UInt8)} (h : L.Nodup) : (riseS L).Pairwise (· < ·) := by
  have h1 : (riseS L).Pairwise (fun a b => leB a b = true) := by
    unfold riseS
    refine List.pairwise_mergeSort (fun a b c h1 h2 => ?_) (fun a b => ?_) L
    · unfold leB at *
      simp only [decide_eq_true_eq] at *
      exact List.le_trans h1 h2
    · unfold leB
      simp only [Bool.or_eq_true, decide_eq_true_eq]
      exact List.le_total a b
  have h2 : (riseS L).Nodup := (List.mergeSort_perm L leB).nodup_iff.2 h
  refine (h1.and h2).imp fun {a b} h => ?_
  have h3 : a ≤ b := by
    have := h.1
    unfold leB at this
    simpa using this
  exact Classical.byContradiction fun h4 => h.2 (List.le_antisymm h3 h4)
theorem allF_some {M : List (Int × Fil)} {td : Int} {k : List UInt8} {q : Fil} (h : allF M td k = some q) : keyF q = k ∧ ∃ x, x ≠ td ∧ (x, q) ∈ M := by
  unfold allF at h
  obtain ⟨p, h1, rfl⟩ := Option.map_eq_some_iff.1 h
  have h2 := List.find?_some h1
  simp only [Bool.and_eq_true, beq_iff_eq, Bool.not_eq_true', beq_eq_false_iff_ne] at h2
  exact ⟨h2.2, p.1, h2.1, List.mem_of_find?_eq_some h1⟩
theorem allF_has {M : List (Int × Fil)} {td x : Int} {q : Fil} (h : (x, q) ∈ M) (hx : x ≠ td) : ∃ r, allF M td (keyF q) = some r := by
  cases h1 : allF M td (keyF q) with
  | some r => exact ⟨r, rfl⟩
  | none =>
    unfold allF at h1
    rw [Option.map_eq_none_iff, List.find?_eq_none] at h1
    have := h1 _ h
    simp [hx] at this
theorem allK_mem {M : List (Int × Fil)} {td : Int} {k : List UInt8} : k ∈ allK M td ↔ ∃ q, allF M td k = some q := by
  unfold allK
  rw [riseS_mem, onceS_mem]
  constructor
  · intro h
    obtain ⟨p, h1, rfl⟩ := List.mem_map.1 h
    obtain ⟨h1, h2⟩ := List.mem_filter.1 h1
    exact allF_has (x := p.1) h1 (by simpa using h2)
  · rintro ⟨q, h⟩
    obtain ⟨rfl, x, h1, h2⟩ := allF_some h
    exact List.mem_map.2 ⟨(x, q), List.mem_filter.2 ⟨h2, by simpa using h1⟩, rfl⟩
theorem allK_lt (M : List (Int × Fil)) (td : Int) : (allK M td).Pairwise (· < ·) := riseS_lt (onceS_nodup _)
theorem outL_mem {M : List (Int × Fil)} {td : Int} {f : Fil} (h : f ∈ outL M td) : allF M td (keyF f) = some f ∧ covdF (allF M td) (allK M td) (keyF f) f = false := by
  unfold outL at h
  obtain ⟨k, h1, h2⟩ := List.mem_filterMap.1 h
  obtain ⟨h3, h4⟩ := Option.filter_eq_some_iff.1 h2
  obtain ⟨rfl, -⟩ := allF_some h3
  exact ⟨h3, by simpa using h4⟩
end Go.Proofs.YtloplmaekonenaaGreatDoor

namespace Go.Proofs.YtloplmaekonenaaGreatDoor
set_option maxRecDepth 20000
open Go.RowKit

def Att.canon (a : Att) : Att := ⟨a.name, a.v.canon⟩
end Go.Proofs.YtloplmaekonenaaGreatDoor

namespace Go.Proofs.YtloplmaekonenaaGreatDoor
set_option maxRecDepth 20000
open Go.RowKit

/-- May it be a rule, as far as it tells by itself? -/
def Ru.rightB (r : Ru) : Bool :=
  if r.kind = 4 then decide (0 ≤ r.at_) else
  if r.kind < 0 ∨ 4 < r.kind ∨ r.tenant < 0 ∨ 4 ≤ r.tenant ∨ isName r.who = false then false else
  if r.kind = 0 then decide (0 ≤ r.broker) && decide (r.broker < 6) else
  if r.kind = 3 then isName r.name && scRight r.sc else filRight r.sc r.cs

end Go.Proofs.YtloplmaekonenaaGreatDoor

namespace Go.Proofs.YtloplmaekonenaaGreatDoor
set_option maxRecDepth 20000
open Go.RowKit

theorem nm_size {s : ByteArray} (h : isName s = true) : s.size ≤ 12 := by
  unfold isName at h
  simp only [Bool.and_eq_true, decide_eq_true_eq] at h
  exact h.2.2
theorem cut_sz (s : ByteArray) : s.size ≤ (cutS s).1.size + 1 + (cutS s).2.1.size := by
  unfold cutS
  split
  · simp only [ByteArray.size_extract]
    omega
  · show s.size ≤ s.size + 1 + _
    omega
theorem scN_size : ∀ (f : Nat) (s : ByteArray) (k : Nat), scN f s = some k → s.size ≤ 13 * k
  | 0, s, k, h => by cases h
  | f + 1, s, k, h => by
    rw [scN_succ] at h
    have hc := cut_sz s
    by_cases h1 : isName (cutS s).1 = true
    · rw [if_pos h1] at h
      have hn := nm_size h1
      by_cases h2 : (cutS s).2.2 = true
      · rw [if_pos h2] at h
        cases h3 : scN f (cutS s).2.1 with
        | none => rw [h3] at h; cases h
        | some k' =>
          rw [h3] at h
          have h4 : k' + 1 = k := by simpa using h
          have := scN_size f _ k' h3
          omega
      · rw [if_neg h2] at h
        have h4 : (cutS s).1 = s := by
          unfold cutS at h2 ⊢
          split
          · rename_i h5; rw [if_pos h5] at h2; exact absurd rfl h2
          · rfl
        rw [h4] at hn
        have h4 : 1 = k := by simpa using h
        omega
    · rw [if_neg h1] at h; cases h
theorem scRight_size {s : ByteArray} (h : scRight s = true) : s.size ≤ 52 := by
  unfold scRight at h
  rw [Bool.or_eq_true] at h
  rcases h with h | h
  · rw [List.isEmpty_iff, ByteArray.toList_eq] at h
    have : s.size = s.data.toList.length := by rw [Array.length_toList]; rfl
    rw [this, h]
    exact Nat.zero_le _
  · unfold scM at h
    cases h1 : scN (s.size + 1) s with
    | none => rw [h1] at h; cases h
    | some k =>
      rw [h1] at h
      have := scN_size _ _ _ h1
      simp only [decide_eq_true_eq] at h
      omega
/-- What a right filter is like. -/
theorem fil_bounds {sc : ByteArray} {l : List Cnd} (h : filRight sc l = true) : sc.size ≤ 52 ∧ l.length ≤ 6 ∧ ∀ c ∈ l, c.name.size ≤ 12 ∧ (0 ≤ c.op ∧ c.op ≤ 7) ∧ (0 ≤ c.v.kind ∧ c.v.kind ≤ 3) ∧ c.v.text.size ≤ 40 := by
  unfold filRight at h
  simp only [Bool.and_eq_true, List.all_eq_true, decide_eq_true_eq] at h
  refine ⟨scRight_size h.2.1, h.2.2, fun c hc => ?_⟩
  have h1 := h.1 c hc
  unfold Cnd.rightB V.right at h1
  simp only [Bool.and_eq_true, decide_eq_true_eq] at h1
  exact ⟨nm_size h1.1, ⟨h1.2.1, h1.2.2.1⟩, ⟨h1.2.2.2.1, h1.2.2.2.2.1⟩, h1.2.2.2.2.2⟩
end Go.Proofs.YtloplmaekonenaaGreatDoor

namespace Go.Proofs.YtloplmaekonenaaGreatDoor
set_option maxRecDepth 20000
open Go.RowKit

/-- Some answer, yes or no. -/
def SomeBool (w : World) (e : Ending) (w' : World) : Prop := ∃ b, e = .returned (.bool b) ∧ Mod (fun _ => False) w w'
set_option maxHeartbeats 2000000 in
theorem light07_at (w : World) (sc : ByteArray) (cv : Value) (l : List Cnd) (hv : RdSl w 7 cv l.length (cnds l)) (hll : l.length ≤ 9223372036854775807) :
    Calls Tryz.prog 15 #[.agg #[.string sc, cv]] w (SomeBool w) := by
  obtain ⟨a, cap, rfl, hcap⟩ : ∃ a c, cv = .slice a l.length c ∧ l.length ≤ c := by obtain ⟨-, a, c, h, h2, -⟩ := hv; exact ⟨a, c, h, h2⟩
  have hll' : (l.length : Int) ≤ 9223372036854775807 := by omega
  have hcap' : (l.length : Int) ≤ cap := by omega
  obtain ⟨wa, hwa⟩ : ∃ wa : World, w.alloc (.cells #[.string sc, .slice a l.length cap] 29) = wa := ⟨_, rfl⟩
  have hmwa : Mod (fun _ => False) w wa := hwa ▸ (Mod.refl (fun _ => False) w).alloc _
  have hgwa := heap_alloc_new w (.cells #[.string sc, .slice a l.length cap] 29)
  rw [hwa] at hgwa
  have hzwa : wa.heap.size = w.heap.size + 1 := by rw [← hwa]; simp
  have hva := hv.mod hmwa (fun _ _ h => h)
  have c0 : wa.cell? ⟨w.heap.size, 0, none⟩ = some (.string sc) := cell_of hgwa rfl
  have c1 : wa.cell? ⟨w.heap.size, 1, none⟩ = some (.slice a l.length cap) := cell_of hgwa rfl
  have hqz : w.heap.size < wa.heap.size := by omega
  have Hv := Lib.hid hv
  have Hwa := Lib.hid hwa
  have Hmwa := Lib.hid hmwa
  have Hgwa := Lib.hid hgwa
  have Hva := Lib.hid hva
  clear hv hwa hmwa hgwa hva hzwa hll
  go_enter Tryz.func15, Tryz.ntmps15
  go_wp2_with (first | (rw [show w.alloc _ = wa from Hwa.out]) | fail)
  go_loopw [3, 12] (fun n i wr => ∃ (j : Nat) (x : Int), n = .int .i64 x ∧ i = .int .i64 j ∧ j ≤ l.length ∧ Mod (fun _ => False) wa wr) (fun _ i _ => l.length - (intOf i).toNat)
  case atStart => exact ⟨0, _, rfl, rfl, Nat.zero_le _, Mod.refl _ _⟩
  case round =>
    obtain ⟨j, n, rfl, rfl, hj, hmr⟩ := hrel
    by_cases hlt : j < l.length
    · have hlt' : (j : Int) < l.length := by omega
      obtain ⟨x, hxj⟩ : ∃ x, l[j]? = some x := ⟨_, List.getElem?_eq_getElem hlt⟩
      obtain ⟨g, off, rfl, hf⟩ : ∃ g off, a = some ⟨g, off, none⟩ ∧ CellsAt wr g (off + j * 7) x.cells := rd_cnd (Hva.out.mod hmr (fun _ _ h => h)) hxj
      obtain ⟨wz, hwz⟩ : ∃ wz : World, wr.alloc (.cells x.cells.toArray 81) = wz := ⟨_, rfl⟩
      have hmwz : Mod (fun _ => False) wr wz := hwz ▸ (Mod.refl (fun _ => False) wr).alloc _
      have hgwz := heap_alloc_new wr (.cells x.cells.toArray 81)
      rw [hwz] at hgwz
      have hzwz : wz.heap.size = wr.heap.size + 1 := by rw [← hwz]; simp
      have hmz := hmr.trans hmwz (fun _ _ h => h)
      have b0 : wz.cell? ⟨wr.heap.size, 0, none⟩ = some (.string x.name) := cell_of hgwz rfl
      have b5 : wz.cell? ⟨wr.heap.size, 5, none⟩ = some (.string x.v.text) := cell_of hgwz rfl
      have Hmr := Lib.hid hmr
      have Hxj := Lib.hid hxj
      have Hf := Lib.hid hf
      have Hwz := Lib.hid hwz
      have Hmwz := Lib.hid hmwz
      have Hgwz := Lib.hid hgwz
      have Hmz := Lib.hid hmz
      clear hmr hxj hf hwz hmwz hgwz hmz hzwz c0 c1
      go_wp2_with (first | ((with_reducible refine wpList_load_lit 81 (.tmp 14) ?_); refine ⟨g, off + j * 7, rfl, x.cells, Hf.out, by kernel_rfl, by kernel_rfl, ?_⟩) | ((with_reducible refine wpList_store_lit 81 (.tmp 5) (.tmp 15) ?_); refine ⟨rfl, x.cells, rfl, rfl, by kernel_rfl, rfl, ?_⟩; rw [Hwz.out]) | fail)
      go_roundw
      case rel => exact ⟨j + 1, _, rfl, by go_num, hlt, Hmz.out⟩
      case measure => simp [intOf]; omega
    · obtain rfl : j = l.length := by omega
      have hgr := hmr.heap Hgwa.out (fun h => h)
      have c1 : wr.cell? ⟨w.heap.size, 1, none⟩ = some (.slice a l.length cap) := cell_of hgr rfl
      have Hm := Lib.hid (Hmwa.out.trans hmr (fun _ _ h => h))
      clear hmr hgr
      by_cases hn : n ≤ 2000
      · go_wp2
        go_ret
        exact ⟨_, rfl, Hm.out⟩
      · have hn' : 2000 < n := by omega
        clear hn
        go_wp2
        go_ret
        exact ⟨_, rfl, Hm.out⟩

end Go.Proofs.YtloplmaekonenaaGreatDoor

namespace Go.Proofs.YtloplmaekonenaaGreatDoor
set_option maxRecDepth 20000
open Go.RowKit

theorem andp_pow (n : Int) (k : Nat) (hk : k < 63) : bits .and .i64 n ((2 ^ k - 1 : Nat) : Int) = n % ((2 ^ k : Nat) : Int) := by
  have hp : 2 ^ k < 2 ^ 63 := Nat.pow_lt_pow_right (by decide) hk
  have hp0 : 0 < 2 ^ k := Nat.two_pow_pos k
  have h127 : (BitVec.ofInt 64 ((2 ^ k - 1 : Nat) : Int)).toNat = 2 ^ k - 1 := by
    rw [BitVec.toNat_ofInt]
    omega
  have key : (BitVec.ofInt 64 n &&& BitVec.ofInt 64 ((2 ^ k - 1 : Nat) : Int)).toNat = (n % ((2 ^ 64 : Nat) : Int)).toNat % 2 ^ k := by
    rw [BitVec.toNat_and, BitVec.toNat_ofInt, h127, Nat.and_two_pow_sub_one_eq_mod]
  show IntKind.i64.wrap ((BitVec.ofInt 64 n &&& BitVec.ofInt 64 ((2 ^ k - 1 : Nat) : Int)).toNat : Nat) = n % ((2 ^ k : Nat) : Int)
  rw [key, IntKind.wrap_i64]
  have h1 : (n % ((2 ^ 64 : Nat) : Int)).toNat % 2 ^ k < 2 ^ k := Nat.mod_lt _ hp0
  have h2 : (((n % ((2 ^ 64 : Nat) : Int)).toNat % 2 ^ k : Nat) : Int) = n % ((2 ^ k : Nat) : Int) := by
    rw [Int.natCast_emod, Int.toNat_of_nonneg (Int.emod_nonneg _ (by decide))]
    exact Int.emod_emod_of_dvd n (by exact_mod_cast Nat.pow_dvd_pow 2 (by omega))
  rw [← h2]
  generalize (n % ((2 ^ 64 : Nat) : Int)).toNat % 2 ^ k = q at *
  omega
theorem andp16 (n : Int) : ∃ t : Nat, bits .and .i64 n 65535 = t ∧ t < 65536 := ⟨(n % 65536).toNat, by
  have := andp_pow n 16 (by decide)
  have e : bits .and .i64 n 65535 = n % 65536 := this
  rw [e]
  omega, by omega⟩
end Go.Proofs.YtloplmaekonenaaGreatDoor

namespace Go.Proofs.YtloplmaekonenaaGreatDoor
set_option maxRecDepth 20000
open Go.RowKit

/-- A filter in memory. -/
structure Fr where
  sc : ByteArray
  a : Option Addr
  c : Nat
  cs : List Cnd
def Fr.cells (f : Fr) : List Value := [.string f.sc, .slice f.a f.cs.length f.c]
def Fr.fil (f : Fr) : Fil := (f.sc, f.cs)
/-- Filters in memory: what each is made of is in range. -/
structure FrsAt (w : World) (v : Value) (l : List Fr) : Prop where
  rd : RdSl w 2 v l.length (l.flatMap Fr.cells)
  cs : ∀ f ∈ l, RdSl w 7 (.slice f.a f.cs.length f.c) f.cs.length (cnds f.cs)
  sc : ∀ f ∈ l, f.sc.size ≤ 9223372036854775807 ∧ f.cs.length ≤ 9223372036854775807
  nm : ∀ f ∈ l, ∀ c ∈ f.cs, c.name.size ≤ 9223372036854775807 ∧ (-9223372036854775808 ≤ c.v.int ∧ c.v.int ≤ 9223372036854775807) ∧ c.v.num < 2 ^ 64
theorem FrsAt.mod {w w' : World} {v : Value} {l : List Fr} (h : FrsAt w v l) (hm : Mod (fun _ => False) w w') : FrsAt w' v l := ⟨h.rd.mod hm (fun _ _ h => h), fun f hf => (h.cs f hf).mod hm (fun _ _ h => h), h.sc, h.nm⟩

end Go.Proofs.YtloplmaekonenaaGreatDoor
