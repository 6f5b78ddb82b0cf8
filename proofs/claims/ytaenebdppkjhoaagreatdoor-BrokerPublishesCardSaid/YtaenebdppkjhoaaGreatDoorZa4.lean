/-
  A region that draws its order, whose first n operations only read: one walk, in the order of the text. The operations behind those may make new blocks ahead of a read; whatever writes must wait for all reads that the world bears upon. All side conditions are the kernel's.
  A region that draws its order, walked by a script: what only reads (rd), what stands alone (go), two that may come in either order (both).
-/
import Derived.WalkKit
import Derived.OrdersHeld
import Derived.KernelRfl
namespace Go.Proofs.YtaenebdppkjhoaaGreatDoor
set_option maxRecDepth 20000
open Go.RowKit

section
variable {P : Program} {ops : Array Oper} {Q : Exit → Act → World → Prop} {md : Region.Mode} {S : World → Prop} {T : Nat → Bool}

/-- j waits for i, directly or through others. -/
def reachB (md : Region.Mode) (ops : Array Oper) : Nat → Nat → Nat → Bool
  | 0, _, _ => false
  | fuel + 1, j, i => match ops[j]? with
    | some o => o.after.any fun e => Region.binds md e && (e.on == i || reachB md ops fuel e.on i)
    | none => false

def ClosedL (md : Region.Mode) (ops : Array Oper) (listed : Array Bool) : Prop :=
  ∀ j oj, ops[j]? = some oj → listed.getD j false = true → ∀ e ∈ oj.after, Region.binds md e = true → listed.getD e.on false = true

theorem ClosedL.reach {listed : Array Bool} (hc : ClosedL md ops listed) : ∀ (fuel j i : Nat), listed.getD j false = true → reachB md ops fuel j i = true → listed.getD i false = true
  | 0, _, _, _, h => by simp [reachB] at h
  | fuel + 1, j, i, hj, h => by
    unfold reachB at h
    split at h
    · rename_i o ho
      obtain ⟨e, he, hb⟩ := Array.any_eq_true'.1 h
      simp only [Bool.and_eq_true, Bool.or_eq_true, beq_iff_eq] at hb
      have hl := hc j o ho hj e he hb.1
      rcases hb.2 with rfl | hr
      · exact hl
      · exact hc.reach fuel e.on i hl hr
    · cases h

theorem reach_ready {listed : Array Bool} (hc : ClosedL md ops listed) {fuel j i : Nat} (hj : j ∈ Region.ready md ops listed) (h : reachB md ops fuel j i = true) : listed.getD i false = true := by
  cases fuel with
  | zero => simp [reachB] at h
  | succ fuel =>
    obtain ⟨_, o, ho, hall⟩ := mem_ready.1 hj
    unfold reachB at h
    simp only [ho] at h
    obtain ⟨e, he, hb⟩ := Array.any_eq_true'.1 h
    simp only [Bool.and_eq_true, Bool.or_eq_true, beq_iff_eq] at hb
    have hl := hall e he hb.1
    rcases hb.2 with rfl | hr
    · exact hl
    · exact hc.reach fuel e.on i hl hr

theorem ClosedL.set {listed : Array Bool} (hc : ClosedL md ops listed) {j : Nat} (hj : j ∈ Region.ready md ops listed) : ClosedL md ops (listed.setIfInBounds j true) := by
  intro k ok hk hl e he hb
  by_cases hjk : j = k
  · subst hjk
    obtain ⟨_, o, ho, hall⟩ := mem_ready.1 hj
    obtain rfl : o = ok := Option.some.inj (ho.symm.trans hk)
    exact getD_set_true (hall e he hb)
  · rw [getD_set_ne false hjk] at hl
    exact getD_set_true (hc k ok hk hl e he hb)

/-- Whatever order is picked from here on; S holds behind each operation of T. -/
def wpAnyG (P : Program) (md : Region.Mode) (ops : Array Oper) (Q : Exit → Act → World → Prop) (S : World → Prop) (T : Nat → Bool) : Nat → Array Bool → Act → World → Prop
  | 0, listed, a, w => Region.ready md ops listed = [] ∧ Q .normal a w
  | fuel + 1, listed, a, w =>
    (Region.ready md ops listed = [] → Q .normal a w) ∧
    ∀ i ∈ Region.ready md ops listed, wpOp P ops Q i (fun a' w' => (T i = true → S w → S w') ∧ wpAnyG P md ops Q S T fuel (listed.setIfInBounds i true) a' w') a w

theorem wpAny_of_G : ∀ (fuel : Nat) (listed : Array Bool) (a : Act) (w : World), wpAnyG P md ops Q S T fuel listed a w → wpAny P md ops Q fuel listed a w
  | 0, _, _, _, h => h
  | fuel + 1, _, _, _, h => ⟨h.1, fun i hi => wpOp_mono (fun a' w' h' => wpAny_of_G fuel _ a' w' h'.2) (h.2 i hi)⟩

theorem wpAnyG_first {S' : World → Prop} {i : Nat} {oi : Oper} {v : Value} (hi : ops[i]? = some oi) (hsel : ∀ (j : Nat) (o : Oper) cs b, ops[j]? = some o → o.op ≠ .select cs b)
    (hQ : ∀ c a w, Q (.panic c) (a.put oi.dst v) w → Q (.panic c) a w) :
    ∀ (fuel : Nat) (listed : Array Bool) (a : Act) (w : World), ClosedL md ops listed →
      (∀ j oj, ops[j]? = some oj → j ≠ i → listed.getD j true = false → (∀ e ∈ oj.after, Region.binds md e = true → e.on ≠ i) → oi.apart ops oj = true) →
      (∀ j, j < ops.size → j ≠ i → listed.getD j true = false → reachB md ops ops.size j i = false → ∀ w w', (T j = true → S w → S w') → S' w → S' w') →
      i ∈ Region.ready md ops listed → YieldsIf P ops S' oi v a → S' w →
      wpAnyG P md ops Q S T fuel (listed.setIfInBounds i true) (a.put oi.dst v) w → wpAnyG P md ops Q S T (fuel + 1) listed a w := by
  intro fuel
  induction fuel with
  | zero =>
    intro listed a w hc _ _ hr hy hS' H
    refine ⟨fun h => (by rw [h] at hr; cases hr), fun j hj => ?_⟩
    by_cases hji : j = i
    · subst hji; exact hy.wpOp hi hS' ⟨fun _ h => h, H⟩
    · have := ready_mono hj hji
      rw [H.1] at this
      cases this
  | succ fuel ih =>
    intro listed a w hc hfree hT hr hy hS' H
    refine ⟨fun h => (by rw [h] at hr; cases hr), fun j hj => ?_⟩
    by_cases hji : j = i
    · subst hji; exact hy.wpOp hi hS' ⟨fun _ h => h, H⟩
    · have h1 := H.2 j (ready_mono hj hji)
      obtain ⟨hjun, oj, hoj, hall⟩ := mem_ready.1 hj
      have hiun : listed.getD i false = false := by
        have h0 := (mem_ready.1 hr).1
        rcases Nat.lt_or_ge i listed.size with h' | h'
        · simp [h'] at h0 ⊢; exact h0
        · simp [Array.getElem?_eq_none h'] at h0
      have hnot : ∀ e ∈ oj.after, Region.binds md e = true → e.on ≠ i := fun e he hb heq => by
        have h1 := hall e he hb
        rw [heq, hiun] at h1
        cases h1
      have hreach : reachB md ops ops.size j i = false := by
        cases hb : reachB md ops ops.size j i with
        | false => rfl
        | true => have := reach_ready hc hj hb; rw [hiun] at this; cases this
      have h2 := wpOp_putIf hoj (hfree j oj hoj hji hjun hnot) (fun cs b => hsel i oi cs b hi) (fun cs b => hsel j oj cs b hoj) hQ hy h1
      have hfree' : ∀ k ok, ops[k]? = some ok → k ≠ i → (listed.setIfInBounds j true).getD k true = false →
          (∀ e ∈ ok.after, Region.binds md e = true → e.on ≠ i) → oi.apart ops ok = true := fun k ok hk hki hun hno => by
        refine hfree k ok hk hki ?_ hno
        by_cases hjk : j = k
        · subst hjk; exact hjun
        · rw [getD_set_ne true hjk] at hun; exact hun
      have hT' : ∀ k, k < ops.size → k ≠ i → (listed.setIfInBounds j true).getD k true = false → reachB md ops ops.size k i = false → ∀ w w', (T k = true → S w → S w') → S' w → S' w' := fun k hks hki hun hno => by
        refine hT k hks hki ?_ hno
        by_cases hjk : j = k
        · subst hjk; exact hjun
        · rw [getD_set_ne true hjk] at hun; exact hun
      have hSj := hT j (Array.getElem?_eq_some_iff.1 hoj).1 hji hjun hreach
      refine wpOp_mono (fun a' w' h3 => ?_) h2
      obtain ⟨hy3, hTS, H3⟩ := h3
      exact ⟨hTS, ih (listed.setIfInBounds j true) a' w' (hc.set hj) hfree' hT' (ready_mono hr (Ne.symm hji)) hy3 (hSj w w' hTS hS') (by rw [Array.setIfInBounds_comm _ _ hji]; exact H3)⟩

/-- Does an operation do the same in whatever world? -/
def pureOp : Op → Bool
  | .move _ | .assign _ | .pick .. | .nilCheck _ | .fieldAddr .. | .field .. | .binOp .. | .unOp .. | .build .. | .extract .. | .indexAddr .. | .slice .. => true
  | .call { callee := .builtin .len, .. } => true
  | .call { callee := .builtin .cap, .. } => true
  | _ => false

/-- A computation that reads, or gives up; one that makes a new block at its end, or gives up. -/
def Reads (P : Program) {α : Type} (c : Sem α) : Prop := ∀ w, (∃ v, c.run P w = .ok v w) ∨ ∃ e w', c.run P w = .halt e w'
def Makes (P : Program) {α : Type} (c : Sem α) : Prop := ∀ w, (∃ v x, c.run P w = .ok v (World.alloc w x)) ∨ ∃ e w', c.run P w = .halt e w'
theorem Reads.pure {α : Type} (v : α) : Reads P (Pure.pure v : Sem α) := fun w => .inl ⟨v, by simp⟩
theorem Reads.halt {α : Type} (e : Halt) : Reads P (Sem.halt e : Sem α) := fun w => .inr ⟨e, w, rfl⟩
theorem Makes.halt {α : Type} (e : Halt) : Makes P (Sem.halt e : Sem α) := fun w => .inr ⟨e, w, rfl⟩
theorem Reads.bind {α β : Type} {c : Sem α} {f : α → Sem β} (h : Reads P c) (hf : ∀ v, Reads P (f v)) : Reads P (c >>= f) := fun w => by
  rw [Sem.run_bind]
  rcases h w with ⟨v, hv⟩ | ⟨e, w', he⟩
  · rw [hv]; exact hf v w
  · rw [he]; exact .inr ⟨e, w', rfl⟩
theorem Makes.bind {α β : Type} {c : Sem α} {f : α → Sem β} (h : Reads P c) (hf : ∀ v, Makes P (f v)) : Makes P (c >>= f) := fun w => by
  rw [Sem.run_bind]
  rcases h w with ⟨v, hv⟩ | ⟨e, w', he⟩
  · rw [hv]; exact hf v w
  · rw [he]; exact .inr ⟨e, w', rfl⟩
theorem Reads.typeInfo (t : TypeId) : Reads P (typeInfo t) := fun w => by
  unfold Go.typeInfo
  cases hq : P.info? t with
  | none => exact .inr ⟨.stuck _, w, by simp [hq, stuck]; rfl⟩
  | some i => exact .inl ⟨i, by simp [hq]⟩
theorem Reads.underlying (t : TypeId) : Reads P (underlying t) := fun w => by
  unfold Go.underlying
  cases hq : P.underlying t with
  | none => exact .inr ⟨.stuck _, w, by simp [hq, stuck]; rfl⟩
  | some i => exact .inl ⟨i, by simp [hq]⟩
theorem Reads.sizeOf (t : TypeId) : Reads P (sizeOf t) := by
  unfold Go.sizeOf
  exact Reads.bind (Reads.typeInfo t) fun v => Reads.pure _
theorem Reads.zeroValue (t : TypeId) : Reads P (zeroValue t) := by
  unfold Go.zeroValue
  refine Reads.bind (Reads.typeInfo t) fun v => ?_
  cases v.zero with
  | none => exact Reads.halt _
  | some z => exact Reads.pure z
theorem Makes.newRow (t : TypeId) (cs : Array Value) (f : Addr → Value) : Makes P (do Pure.pure (f (← newRow t cs))) := fun w => .inl ⟨f ⟨w.heap.size, 0, none⟩, .cells cs t, by simp [Go.newRow]⟩

theorem Makes.buildSlice (t : TypeId) (n : Nat) (parts : Array (Nat × Value)) : Makes P (Instr.buildSlice t n parts) := by
  unfold Instr.buildSlice
  refine Makes.bind (Reads.underlying t) fun d => ?_
  split
  · rename_i elem
    refine Makes.bind (Reads.sizeOf elem) fun size => ?_
    have fin : ∀ zero : Array Value, Makes P (match Instr.fill (fun i => some (i * size, size)) ((Array.range (n * size)).map (zero[· % zero.size]!)) parts.toList with
      | some cells => (do Pure.pure (Value.slice (some (← Go.newRow elem cells)) n n) : Sem Value)
      | _ => stuck "buildSlice: a part of the wrong size") := fun zero => by
      split
      · rename_i cells _
        exact Makes.newRow elem cells fun a => .slice (some a) n n
      · exact Makes.halt _
    split
    · dsimp only
      split
      · exact Makes.bind (Reads.halt _) fun _ => fin _
      · exact fin _
    · dsimp only
      split
      · exact Makes.bind (Reads.halt _) fun _ => Makes.bind (Reads.zeroValue elem) fun z => fin z.cells
      · exact Makes.bind (Reads.zeroValue elem) fun z => fin z.cells
  · exact Makes.halt _

end
end Go.Proofs.YtaenebdppkjhoaaGreatDoor

namespace Go.Proofs.YtaenebdppkjhoaaGreatDoor
set_option maxRecDepth 20000
open Go.RowKit

inductive Stp where
  | rd (i : Nat)
  | go (i : Nat)
  | both (i j : Nat)

section
variable {P : Program} {ops : Array Oper} {Q : Exit → Act → World → Prop} {md : Region.Mode} {S : World → Prop} {T : Nat → Bool}

def scriptOk (md : Region.Mode) (ops : Array Oper) (T : Nat → Bool) : List Stp → Array Bool → Bool
  | [], listed => (Region.ready md ops listed).isEmpty
  | .rd i :: r, listed => decide (i < ops.size) && Region.free md ops listed i && (Region.ready md ops listed).contains i &&
      (((ops[i]?).map (fun o => pureOp o.op)).getD false || (List.range ops.size).all fun j => j == i || listed.getD j true || reachB md ops ops.size j i || T j) &&
      scriptOk md ops T r (listed.setIfInBounds i true)
  | .go i :: r, listed => Region.ready md ops listed == [i] && scriptOk md ops T r (listed.setIfInBounds i true)
  | .both i j :: r, listed => decide (i ≠ j) && Region.ready md ops listed == [i, j] && Region.ready md ops (listed.setIfInBounds i true) == [j] && Region.ready md ops (listed.setIfInBounds j true) == [i] &&
      scriptOk md ops T r ((listed.setIfInBounds i true).setIfInBounds j true)
def count : List Stp → Nat
  | [] => 0
  | .rd _ :: r => count r + 1
  | .go _ :: r => count r + 1
  | .both _ _ :: r => count r + 2

/-- One operation. -/
def goOp (P : Program) (ops : Array Oper) (Q : Exit → Act → World → Prop) (S : World → Prop) (T : Nat → Bool) (i : Nat) (K : Act → World → Prop) (a : Act) (w : World) : Prop :=
  wpOp P ops Q i (fun a' w' => (T i = true → S w → S w') ∧ K a' w') a w

def walkM (P : Program) (ops : Array Oper) (Q : Exit → Act → World → Prop) (S : World → Prop) (T : Nat → Bool) : List Stp → Act → World → Prop
  | [], a, w => Q .normal a w
  | .rd i :: r, a, w => ∀ o, ops[i]? = some o → (pureOp o.op = false → S w) ∧ ∃ v, YieldsIf P ops (fun w => pureOp o.op = false → S w) o v a ∧ walkM P ops Q S T r (a.put o.dst v) w
  | .go i :: r, a, w => goOp P ops Q S T i (fun a' w' => walkM P ops Q S T r a' w') a w
  | .both i j :: r, a, w => goOp P ops Q S T i (goOp P ops Q S T j (fun a' w' => walkM P ops Q S T r a' w')) a w ∧ goOp P ops Q S T j (goOp P ops Q S T i (fun a' w' => walkM P ops Q S T r a' w')) a w

theorem goOp_mono {i : Nat} {K K' : Act → World → Prop} {a : Act} {w : World} (h : ∀ a w, K a w → K' a w) (hh : goOp P ops Q S T i K a w) : goOp P ops Q S T i K' a w :=
  wpOp_mono (fun a' w' h' => ⟨h'.1, h a' w' h'.2⟩) hh

theorem walk_all (hsel : Region.noSelect ops = true) (hQ : ∀ (c : List PanicEntry) (a : Act) (d : Option Tmp) (v : Value) (w : World), Q (.panic c) (a.put d v) w → Q (.panic c) a w) :
    ∀ (r : List Stp) (listed : Array Bool) (a : Act) (w : World), scriptOk md ops T r listed = true → ClosedL md ops listed → walkM P ops Q S T r a w → wpAnyG P md ops Q S T (count r) listed a w
  | [], listed, a, w, hok, _, h => by
    simp only [scriptOk, List.isEmpty_iff] at hok
    exact ⟨hok, h⟩
  | .rd i :: r, listed, a, w, hok, hc, h => by
    simp only [scriptOk, Bool.and_eq_true, decide_eq_true_eq] at hok
    obtain ⟨⟨⟨⟨hi, hf⟩, hr⟩, hp⟩, hok⟩ := hok
    obtain ⟨o, ho⟩ : ∃ o, ops[i]? = some o := ⟨_, Array.getElem?_eq_getElem hi⟩
    obtain ⟨hSw, v, hy, h⟩ := h o ho
    have hri : i ∈ Region.ready md ops listed := by simpa using hr
    exact wpAnyG_first (S := S) (T := T) (S' := fun w => pureOp o.op = false → S w) ho (Region.noSelect_spec hsel) (fun c a w => hQ c a o.dst v w) (count r) listed a w hc (Region.free_spec ho hf)
      (fun j hj hji hun hre w w' hT h hpf => by
        simp only [ho, Option.map_some, Option.getD_some, hpf, Bool.false_or, List.all_eq_true, List.mem_range, Bool.or_eq_true, beq_iff_eq] at hp
        rcases hp j hj with ((h1 | h1) | h1) | h1
        · exact absurd h1 hji
        · rw [hun] at h1; cases h1
        · rw [hre] at h1; cases h1
        · exact hT h1 (h hpf))
      hri hy hSw (walk_all hsel hQ r (listed.setIfInBounds i true) (a.put o.dst v) w hok (hc.set hri) h)
  | .go i :: r, listed, a, w, hok, hc, h => by
    simp only [scriptOk, Bool.and_eq_true, beq_iff_eq] at hok
    obtain ⟨hr, hok⟩ := hok
    have hri : i ∈ Region.ready md ops listed := by rw [hr]; simp
    refine ⟨fun h0 => (by rw [hr] at h0; cases h0), fun j hj => ?_⟩
    rw [hr] at hj
    obtain rfl : j = i := by simpa using hj
    have h : goOp P ops Q S T j (fun a' w' => walkM P ops Q S T r a' w') a w := h
    exact wpOp_mono (fun a' w' h' => ⟨h'.1, walk_all hsel hQ r _ a' w' hok (hc.set hri) h'.2⟩) h
  | .both i j :: r, listed, a, w, hok, hc, h => by
    simp only [scriptOk, Bool.and_eq_true, beq_iff_eq, decide_eq_true_eq] at hok
    obtain ⟨⟨⟨⟨hij, hr⟩, hr1⟩, hr2⟩, hok⟩ := hok
    have hri : i ∈ Region.ready md ops listed := by rw [hr]; simp
    have hrj : j ∈ Region.ready md ops listed := by rw [hr]; simp
    have hrj2 : j ∈ Region.ready md ops (listed.setIfInBounds i true) := by rw [hr1]; simp
    refine ⟨fun h0 => (by rw [hr] at h0; cases h0), fun k hk => ?_⟩
    rw [hr] at hk
    have hk' : k = i ∨ k = j := by simpa using hk
    have hA : goOp P ops Q S T i (goOp P ops Q S T j (fun a' w' => walkM P ops Q S T r a' w')) a w := h.1
    have hB : goOp P ops Q S T j (goOp P ops Q S T i (fun a' w' => walkM P ops Q S T r a' w')) a w := h.2
    rcases hk' with rfl | rfl
    · refine wpOp_mono (fun a' w' h' => ⟨h'.1, ?_⟩) hA
      refine ⟨fun h0 => (by rw [hr1] at h0; cases h0), fun k' hk' => ?_⟩
      rw [hr1] at hk'
      obtain rfl : k' = j := by simpa using hk'
      exact wpOp_mono (fun a' w' h' => ⟨h'.1, walk_all hsel hQ r _ a' w' hok ((hc.set hri).set hrj2) h'.2⟩) h'.2
    · refine wpOp_mono (fun a' w' h' => ⟨h'.1, ?_⟩) hB
      refine ⟨fun h0 => (by rw [hr2] at h0; cases h0), fun k' hk' => ?_⟩
      rw [hr2] at hk'
      obtain rfl : k' = i := by simpa using hk'
      rw [Array.setIfInBounds_comm _ _ hij.symm]
      exact wpOp_mono (fun a' w' h' => ⟨h'.1, walk_all hsel hQ r _ a' w' hok ((hc.set hri).set hrj2) h'.2⟩) h'.2

/-- Behind a structure, so that nothing unfolds it. -/
structure WM (P : Program) (ops : Array Oper) (Q : Exit → Act → World → Prop) (S : World → Prop) (T : Nat → Bool) (r : List Stp) (a : Act) (w : World) : Prop where
  out : walkM P ops Q S T r a w
structure GO (P : Program) (ops : Array Oper) (Q : Exit → Act → World → Prop) (S : World → Prop) (T : Nat → Bool) (i : Nat) (K : Act → World → Prop) (a : Act) (w : World) : Prop where
  out : goOp P ops Q S T i K a w

/-- THE LAW. -/
theorem wp_region_script {id : Nat} {a : Act} {w : World} {l : List Oper} (r : List Stp) (ks : List Nat) (S : World → Prop) (hm : P.follows .mixedOrders = true)
    (hB : (Region.noSelect l.toArray && (decide (count r = l.length) && scriptOk .any l.toArray (fun j => ks.contains j) r (Array.replicate l.toArray.size false))) = true)
    (hQ : ∀ (c : List PanicEntry) (a : Act) (d : Option Tmp) (v : Value) (w : World), Q (.panic c) (a.put d v) w → Q (.panic c) a w)
    (h : WM P l.toArray Q S (fun j => ks.contains j) r a w.drew) : (Code.region id l.toArray true).wp P Q a w := by
  simp only [Bool.and_eq_true, decide_eq_true_eq] at hB
  obtain ⟨hsel, hlen, hok⟩ := hB
  have hcl : ClosedL .any l.toArray (Array.replicate l.toArray.size false) := fun j oj _ hl => by
    exfalso
    rcases Nat.lt_or_ge j l.toArray.size with h' | h' <;> simp_all
  refine wp_region_any hm (wpAny_of_G (S := S) (T := fun j => ks.contains j) _ _ _ _ ?_)
  have key := walk_all (md := .any) (ops := l.toArray) (P := P) (Q := Q) (S := S) (T := fun j => ks.contains j) hsel hQ r (Array.replicate l.toArray.size false) a w.drew hok hcl h.out
  rw [hlen] at key
  simpa using key

theorem walk_nil {a : Act} {w : World} (h : Q .normal a w) : WM P ops Q S T [] a w := ⟨h⟩
theorem walk_rd {i : Nat} {r : List Stp} {o : Oper} {a : Act} {w : World} (ho : ops[i]? = some o) (hw : Region.wanted o (yielded ops a.tmps) = true) (hSw : pureOp o.op = false → S w) (v : Value)
    (hy : ∀ w, (pureOp o.op = false → S w) → (execOp a.eval o).run P w = .ok (.value v) w)
    (h : ∀ K : Act → Prop, (∀ a', WM P ops Q S T r a' w → K a') → K (a.put o.dst v)) : WM P ops Q S T (.rd i :: r) a w :=
  ⟨fun o' ho' => by
    obtain rfl : o = o' := Option.some.inj (ho.symm.trans ho')
    exact ⟨hSw, v, .inl ⟨hw, hy⟩, h _ fun _ h => h.out⟩⟩
theorem go_yes {i : Nat} {o : Oper} {K : Act → World → Prop} {a : Act} {w : World} (ho : ops[i]? = some o) (hw : Region.wanted o (yielded ops a.tmps) = true)
    (h : ∀ K' : Act → World → Prop, (∀ a' w', (T i = true → S w → S w') → K a' w' → K' a' w') → o.wp P a w K' Q) : GO P ops Q S T i K a w := by
  constructor
  unfold goOp wpOp
  simp only [ho]
  rw [if_pos hw]
  exact .inl (h _ fun _ _ h1 h2 => ⟨h1, h2⟩)
theorem walk_one {i : Nat} {r : List Stp} {a : Act} {w : World} (h : GO P ops Q S T i (fun a' w' => WM P ops Q S T r a' w') a w) : WM P ops Q S T (.go i :: r) a w := by
  constructor
  show goOp P ops Q S T i (fun a' w' => walkM P ops Q S T r a' w') a w
  exact goOp_mono (fun _ _ h' => h'.out) h.out
end
end Go.Proofs.YtaenebdppkjhoaaGreatDoor
