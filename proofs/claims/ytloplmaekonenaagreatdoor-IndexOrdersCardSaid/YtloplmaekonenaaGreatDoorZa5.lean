/-
  The order of texts, and strings.Compare.
  A region that draws its order, whose first n operations only read: one walk, in the order of the text. The operations behind those may make new blocks ahead of a read; whatever writes must wait for all reads that the world bears upon. All side conditions are the kernel's.
-/
import Derived.Test.YtloplmaekonenaaGreatDoorZa4
import Derived.Lib.Bytealg
import Derived.WalkKit
import Derived.OrdersHeld
import Derived.KernelRfl
namespace Go.Proofs.YtloplmaekonenaaGreatDoor
set_option maxRecDepth 20000
open Go.RowKit

theorem less_cons (a b : UInt8) (s t : List UInt8) : Op.bytesLess (a :: s) (b :: t) = if a < b then true else if b < a then false else Op.bytesLess s t := by
  rw [Op.bytesLess]
  by_cases h1 : a < b
  · simp [h1]
  · by_cases h2 : b < a
    · have h3 : (a == b) = false := by
        rw [beq_eq_false_iff_ne]
        rintro rfl
        exact h1 h2
      simp [h1, h2, h3]
    · have h3 : a = b := UInt8.toNat.inj (by
        have h4 : ¬ a.toNat < b.toNat := h1
        have h5 : ¬ b.toNat < a.toNat := h2
        omega)
      simp [h3]
theorem cmp_cons (a b : UInt8) (s t : List UInt8) : Lib.compareBytes (a :: s) (b :: t) = if a < b then -1 else if b < a then 1 else Lib.compareBytes s t := by
  rw [Lib.compareBytes]
theorem cmp_less : ∀ a b : List UInt8, (Lib.compareBytes a b < 0) ↔ Op.bytesLess a b = true
  | [], [] => by decide
  | [], b :: t => by simp [Lib.compareBytes, Op.bytesLess]
  | a :: s, [] => by simp [Lib.compareBytes, Op.bytesLess]
  | a :: s, b :: t => by
    rw [less_cons, cmp_cons]
    split
    · simp
    · split
      · simp
      · exact cmp_less s t
theorem cmp_zero : ∀ a b : List UInt8, (Lib.compareBytes a b = 0) ↔ a = b
  | [], [] => by decide
  | [], b :: t => by simp [Lib.compareBytes]
  | a :: s, [] => by simp [Lib.compareBytes]
  | a :: s, b :: t => by
    rw [cmp_cons]
    split
    · rename_i h
      constructor
      · intro h'; cases h'
      · intro h'; cases h'; exact absurd h (by simp)
    · rename_i h
      split
      · rename_i h1
        constructor
        · intro h'; cases h'
        · intro h'; cases h'; exact absurd h1 h
      · rename_i h1
        have hab : a = b := by
          have h2 : ¬ a.toNat < b.toNat := h
          have h3 : ¬ b.toNat < a.toNat := h1
          exact UInt8.toNat.inj (by omega)
        subst hab
        rw [cmp_zero s t]
        simp
theorem less_trans : ∀ a b c : List UInt8, Op.bytesLess a b = true → Op.bytesLess b c = true → Op.bytesLess a c = true
  | _, [], [], _, h => by simp [Op.bytesLess] at h
  | [], [], _ :: _, h, _ => by simp [Op.bytesLess] at h
  | _ :: _, [], _ :: _, h, _ => by simp [Op.bytesLess] at h
  | _, _ :: _, [], _, h => by simp [Op.bytesLess] at h
  | [], _ :: _, _ :: _, _, _ => by simp [Op.bytesLess]
  | a :: s, b :: t, c :: u, h, k => by
    rw [less_cons] at h k ⊢
    have e : ∀ x y : UInt8, x < y ↔ x.toNat < y.toNat := fun _ _ => Iff.rfl
    by_cases h1 : a < b
    · by_cases k1 : b < c
      · rw [if_pos (by rw [e] at *; omega)]
      · by_cases k2 : c < b
        · rw [if_neg k1, if_pos k2] at k; cases k
        · rw [if_pos (by rw [e] at *; omega)]
    · by_cases h2 : b < a
      · rw [if_neg h1, if_pos h2] at h; cases h
      · rw [if_neg h1, if_neg h2] at h
        by_cases k1 : b < c
        · rw [if_pos (by rw [e] at *; omega)]
        · by_cases k2 : c < b
          · rw [if_neg k1, if_pos k2] at k; cases k
          · rw [if_neg k1, if_neg k2] at k
            rw [if_neg (by rw [e] at *; omega), if_neg (by rw [e] at *; omega)]
            exact less_trans s t u h k
theorem less_total (a b : List UInt8) (h : Op.bytesLess a b = false) (hne : a ≠ b) : Op.bytesLess b a = true := by
  induction a generalizing b with
  | nil => cases b with
    | nil => exact absurd rfl hne
    | cons b t => simp [Op.bytesLess] at h
  | cons a s ih => cases b with
    | nil => simp [Op.bytesLess]
    | cons b t =>
      rw [less_cons] at h ⊢
      by_cases h1 : a < b
      · rw [if_pos h1] at h; cases h
      · rw [if_neg h1] at h
        by_cases h2 : b < a
        · rw [if_pos h2]
        · rw [if_neg h2] at h
          rw [if_neg h2, if_neg h1]
          have hab : a = b := by
            have h2 : ¬ b.toNat < a.toNat := h2
            have h3 : ¬ a.toNat < b.toNat := h1
            exact UInt8.toNat.inj (by omega)
          subst hab
          exact ih t h (fun h => hne (by rw [h]))

theorem cmps_at (a b : ByteArray) (w : World) : Calls Tryz.prog 132 #[.string a, .string b] w fun e w' => e = .returned (.int .i64 (Lib.compareBytes a.data.toList b.data.toList)) ∧ w' = w := by
  go_enter Tryz.func132, Tryz.ntmps132
  go_wp2
  rw [run_callFunc_extern Tryz.func163 (by kernel_rfl) (by kernel_rfl) (by kernel_rfl) (e := Extern.BytealgCompare.compare) (by kernel_rfl), Lib.run_compareString]
  simp only [Result.andThen]
  rw [Oper.upon_value]
  go_wp2
  go_ret
  exact ⟨rfl, rfl⟩
theorem cmp_at (a b : ByteArray) (w : World) : Calls Tryz.prog 92 #[.string a, .string b] w fun e w' => e = .returned (.int .i64 (Lib.compareBytes a.data.toList b.data.toList)) ∧ w' = w := by
  go_enter Tryz.func92, Tryz.ntmps92
  go_wp2_with fail
  refine (cmps_at a b w).mono ?_
  rintro e w' ⟨rfl, rfl⟩
  go_wp2
  go_ret
  exact ⟨rfl, rfl⟩
end Go.Proofs.YtloplmaekonenaaGreatDoor

namespace Go.Proofs.YtloplmaekonenaaGreatDoor
set_option maxRecDepth 20000
open Go.RowKit

section
variable {P : Program} {ops : Array Oper} {Q : Exit → Act → World → Prop} {md : Region.Mode} {S : World → Prop} {T : Nat → Bool}

/-- j waits for i, directly or through others. -/
def reachB (md : Region.Mode) (ops : Array Oper) : Nat → Nat → Nat → Bool
  | 0, _, _ => false
  | fuel + 1, j, i => match ops[j]? with
    | some o => o.after.any fun e => Region.binds md e && (e.on == i || reachB md ops fuel e.on i)
    | none => false

def ClosedL (md : Region.Mode) (ops : Array Oper) (listed : Array Bool) : Prop :=
  ∀ j oj, ops[j]? = some oj → listed.getD j false = true → ∀ e ∈ oj.after, Region.binds md e = true → listed.getD e.on false = true

theorem ClosedL.reach {listed : Array Bool} (hc : ClosedL md ops listed) : ∀ (fuel j i : Nat), listed.getD j false = true → reachB md ops fuel j i = true → listed.getD i false = true
  | 0, _, _, _, h => by simp [reachB] at h
  | fuel + 1, j, i, hj, h => by
    unfold reachB at h
    split at h
    · rename_i o ho
      obtain ⟨e, he, hb⟩ := Array.any_eq_true'.1 h
      simp only [Bool.and_eq_true, Bool.or_eq_true, beq_iff_eq] at hb
      have hl := hc j o ho hj e he hb.1
      rcases hb.2 with rfl | hr
      · exact hl
      · exact hc.reach fuel e.on i hl hr
    · cases h

theorem reach_ready {listed : Array Bool} (hc : ClosedL md ops listed) {fuel j i : Nat} (hj : j ∈ Region.ready md ops listed) (h : reachB md ops fuel j i = true) : listed.getD i false = true := by
  cases fuel with
  | zero => simp [reachB] at h
  | succ fuel =>
    obtain ⟨_, o, ho, hall⟩ := mem_ready.1 hj
    unfold reachB at h
    simp only [ho] at h
    obtain ⟨e, he, hb⟩ := Array.any_eq_true'.1 h
    simp only [Bool.and_eq_true, Bool.or_eq_true, beq_iff_eq] at hb
    have hl := hall e he hb.1
    rcases hb.2 with rfl | hr
    · exact hl
    · exact hc.reach fuel e.on i hl hr

theorem ClosedL.set {listed : Array Bool} (hc : ClosedL md ops listed) {j : Nat} (hj : j ∈ Region.ready md ops listed) : ClosedL md ops (listed.setIfInBounds j true) := by
  intro k ok hk hl e he hb
  by_cases hjk : j = k
  · subst hjk
    obtain ⟨_, o, ho, hall⟩ := mem_ready.1 hj
    obtain rfl : o = ok := Option.some.inj (ho.symm.trans hk)
    exact getD_set_true (hall e he hb)
  · rw [getD_set_ne false hjk] at hl
    exact getD_set_true (hc k ok hk hl e he hb)

/-- Whatever order is picked from here on; S holds behind each operation of T. -/
def wpAnyG (P : Program) (md : Region.Mode) (ops : Array Oper) (Q : Exit → Act → World → Prop) (S : World → Prop) (T : Nat → Bool) : Nat → Array Bool → Act → World → Prop
  | 0, listed, a, w => Region.ready md ops listed = [] ∧ Q .normal a w
  | fuel + 1, listed, a, w =>
    (Region.ready md ops listed = [] → Q .normal a w) ∧
    ∀ i ∈ Region.ready md ops listed, wpOp P ops Q i (fun a' w' => (T i = true → S w → S w') ∧ wpAnyG P md ops Q S T fuel (listed.setIfInBounds i true) a' w') a w

theorem wpAny_of_G : ∀ (fuel : Nat) (listed : Array Bool) (a : Act) (w : World), wpAnyG P md ops Q S T fuel listed a w → wpAny P md ops Q fuel listed a w
  | 0, _, _, _, h => h
  | fuel + 1, _, _, _, h => ⟨h.1, fun i hi => wpOp_mono (fun a' w' h' => wpAny_of_G fuel _ a' w' h'.2) (h.2 i hi)⟩

theorem wpAnyG_first {S' : World → Prop} {i : Nat} {oi : Oper} {v : Value} (hi : ops[i]? = some oi) (hsel : ∀ (j : Nat) (o : Oper) cs b, ops[j]? = some o → o.op ≠ .select cs b)
    (hQ : ∀ c a w, Q (.panic c) (a.put oi.dst v) w → Q (.panic c) a w) :
    ∀ (fuel : Nat) (listed : Array Bool) (a : Act) (w : World), ClosedL md ops listed →
      (∀ j oj, ops[j]? = some oj → j ≠ i → listed.getD j true = false → (∀ e ∈ oj.after, Region.binds md e = true → e.on ≠ i) → oi.apart ops oj = true) →
      (∀ j, j < ops.size → j ≠ i → listed.getD j true = false → reachB md ops ops.size j i = false → ∀ w w', (T j = true → S w → S w') → S' w → S' w') →
      i ∈ Region.ready md ops listed → YieldsIf P ops S' oi v a → S' w →
      wpAnyG P md ops Q S T fuel (listed.setIfInBounds i true) (a.put oi.dst v) w → wpAnyG P md ops Q S T (fuel + 1) listed a w := by
  intro fuel
  induction fuel with
  | zero =>
    intro listed a w hc _ _ hr hy hS' H
    refine ⟨fun h => (by rw [h] at hr; cases hr), fun j hj => ?_⟩
    by_cases hji : j = i
    · subst hji; exact hy.wpOp hi hS' ⟨fun _ h => h, H⟩
    · have := ready_mono hj hji
      rw [H.1] at this
      cases this
  | succ fuel ih =>
    intro listed a w hc hfree hT hr hy hS' H
    refine ⟨fun h => (by rw [h] at hr; cases hr), fun j hj => ?_⟩
    by_cases hji : j = i
    · subst hji; exact hy.wpOp hi hS' ⟨fun _ h => h, H⟩
    · have h1 := H.2 j (ready_mono hj hji)
      obtain ⟨hjun, oj, hoj, hall⟩ := mem_ready.1 hj
      have hiun : listed.getD i false = false := by
        have h0 := (mem_ready.1 hr).1
        rcases Nat.lt_or_ge i listed.size with h' | h'
        · simp [h'] at h0 ⊢; exact h0
        · simp [Array.getElem?_eq_none h'] at h0
      have hnot : ∀ e ∈ oj.after, Region.binds md e = true → e.on ≠ i := fun e he hb heq => by
        have h1 := hall e he hb
        rw [heq, hiun] at h1
        cases h1
      have hreach : reachB md ops ops.size j i = false := by
        cases hb : reachB md ops ops.size j i with
        | false => rfl
        | true => have := reach_ready hc hj hb; rw [hiun] at this; cases this
      have h2 := wpOp_putIf hoj (hfree j oj hoj hji hjun hnot) (fun cs b => hsel i oi cs b hi) (fun cs b => hsel j oj cs b hoj) hQ hy h1
      have hfree' : ∀ k ok, ops[k]? = some ok → k ≠ i → (listed.setIfInBounds j true).getD k true = false →
          (∀ e ∈ ok.after, Region.binds md e = true → e.on ≠ i) → oi.apart ops ok = true := fun k ok hk hki hun hno => by
        refine hfree k ok hk hki ?_ hno
        by_cases hjk : j = k
        · subst hjk; exact hjun
        · rw [getD_set_ne true hjk] at hun; exact hun
      have hT' : ∀ k, k < ops.size → k ≠ i → (listed.setIfInBounds j true).getD k true = false → reachB md ops ops.size k i = false → ∀ w w', (T k = true → S w → S w') → S' w → S' w' := fun k hks hki hun hno => by
        refine hT k hks hki ?_ hno
        by_cases hjk : j = k
        · subst hjk; exact hjun
        · rw [getD_set_ne true hjk] at hun; exact hun
      have hSj := hT j (Array.getElem?_eq_some_iff.1 hoj).1 hji hjun hreach
      refine wpOp_mono (fun a' w' h3 => ?_) h2
      obtain ⟨hy3, hTS, H3⟩ := h3
      exact ⟨hTS, ih (listed.setIfInBounds j true) a' w' (hc.set hj) hfree' hT' (ready_mono hr (Ne.symm hji)) hy3 (hSj w w' hTS hS') (by rw [Array.setIfInBounds_comm _ _ hji]; exact H3)⟩

/-- Does an operation do the same in whatever world? -/
def pureOp : Op → Bool
  | .move _ | .assign _ | .pick .. | .nilCheck _ | .fieldAddr .. | .field .. | .binOp .. | .unOp .. | .build .. | .extract .. | .indexAddr .. | .slice .. => true
  | .call { callee := .builtin .len, .. } => true
  | .call { callee := .builtin .cap, .. } => true
  | _ => false

/-- A computation that reads, or gives up; one that makes a new block at its end, or gives up. -/
def Reads (P : Program) {α : Type} (c : Sem α) : Prop := ∀ w, (∃ v, c.run P w = .ok v w) ∨ ∃ e w', c.run P w = .halt e w'
def Makes (P : Program) {α : Type} (c : Sem α) : Prop := ∀ w, (∃ v x, c.run P w = .ok v (World.alloc w x)) ∨ ∃ e w', c.run P w = .halt e w'
theorem Reads.pure {α : Type} (v : α) : Reads P (Pure.pure v : Sem α) := fun w => .inl ⟨v, by simp⟩
theorem Reads.halt {α : Type} (e : Halt) : Reads P (Sem.halt e : Sem α) := fun w => .inr ⟨e, w, rfl⟩
theorem Makes.halt {α : Type} (e : Halt) : Makes P (Sem.halt e : Sem α) := fun w => .inr ⟨e, w, rfl⟩
theorem Reads.bind {α β : Type} {c : Sem α} {f : α → Sem β} (h : Reads P c) (hf : ∀ v, Reads P (f v)) : Reads P (c >>= f) := fun w => by
  rw [Sem.run_bind]
  rcases h w with ⟨v, hv⟩ | ⟨e, w', he⟩
  · rw [hv]; exact hf v w
  · rw [he]; exact .inr ⟨e, w', rfl⟩
theorem Makes.bind {α β : Type} {c : Sem α} {f : α → Sem β} (h : Reads P c) (hf : ∀ v, Makes P (f v)) : Makes P (c >>= f) := fun w => by
  rw [Sem.run_bind]
  rcases h w with ⟨v, hv⟩ | ⟨e, w', he⟩
  · rw [hv]; exact hf v w
  · rw [he]; exact .inr ⟨e, w', rfl⟩
theorem Reads.typeInfo (t : TypeId) : Reads P (typeInfo t) := fun w => by
  unfold Go.typeInfo
  cases hq : P.info? t with
  | none => exact .inr ⟨.stuck _, w, by simp [hq, stuck]; rfl⟩
  | some i => exact .inl ⟨i, by simp [hq]⟩
theorem Reads.underlying (t : TypeId) : Reads P (underlying t) := fun w => by
  unfold Go.underlying
  cases hq : P.underlying t with
  | none => exact .inr ⟨.stuck _, w, by simp [hq, stuck]; rfl⟩
  | some i => exact .inl ⟨i, by simp [hq]⟩
theorem Reads.sizeOf (t : TypeId) : Reads P (sizeOf t) := by
  unfold Go.sizeOf
  exact Reads.bind (Reads.typeInfo t) fun v => Reads.pure _
theorem Reads.zeroValue (t : TypeId) : Reads P (zeroValue t) := by
  unfold Go.zeroValue
  refine Reads.bind (Reads.typeInfo t) fun v => ?_
  cases v.zero with
  | none => exact Reads.halt _
  | some z => exact Reads.pure z
theorem Makes.newRow (t : TypeId) (cs : Array Value) (f : Addr → Value) : Makes P (do Pure.pure (f (← newRow t cs))) := fun w => .inl ⟨f ⟨w.heap.size, 0, none⟩, .cells cs t, by simp [Go.newRow]⟩

theorem Makes.buildSlice (t : TypeId) (n : Nat) (parts : Array (Nat × Value)) : Makes P (Instr.buildSlice t n parts) := by
  unfold Instr.buildSlice
  refine Makes.bind (Reads.underlying t) fun d => ?_
  split
  · rename_i elem
    refine Makes.bind (Reads.sizeOf elem) fun size => ?_
    have fin : ∀ zero : Array Value, Makes P (match Instr.fill (fun i => some (i * size, size)) ((Array.range (n * size)).map (zero[· % zero.size]!)) parts.toList with
      | some cells => (do Pure.pure (Value.slice (some (← Go.newRow elem cells)) n n) : Sem Value)
      | _ => stuck "buildSlice: a part of the wrong size") := fun zero => by
      split
      · rename_i cells _
        exact Makes.newRow elem cells fun a => .slice (some a) n n
      · exact Makes.halt _
    split
    · dsimp only
      split
      · exact Makes.bind (Reads.halt _) fun _ => fin _
      · exact fin _
    · dsimp only
      split
      · exact Makes.bind (Reads.halt _) fun _ => Makes.bind (Reads.zeroValue elem) fun z => fin z.cells
      · exact Makes.bind (Reads.zeroValue elem) fun z => fin z.cells
  · exact Makes.halt _

end
end Go.Proofs.YtloplmaekonenaaGreatDoor
