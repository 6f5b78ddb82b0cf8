/-
  A region that draws its order, whose first n operations only read: one walk, in the order of the text. The operations behind those may make new blocks ahead of a read; whatever writes must wait for all reads that the world bears upon. All side conditions are the kernel's.
-/
import Derived.WalkKit
import Derived.OrdersHeld
import Derived.KernelRfl
namespace Go.Proofs.Ytpfnemkfbelpcaa
set_option maxRecDepth 20000
open Go.RowKit

section
variable {P : Program} {ops : Array Oper} {Q : Exit → Act → World → Prop} {md : Region.Mode} {S : World → Prop} {T : Nat → Bool}

/-- j waits for i, directly or through others. -/
def reachB (md : Region.Mode) (ops : Array Oper) : Nat → Nat → Nat → Bool
  | 0, _, _ => false
  | fuel + 1, j, i => match ops[j]? with
    | some o => o.after.any fun e => Region.binds md e && (e.on == i || reachB md ops fuel e.on i)
    | none => false

def ClosedL (md : Region.Mode) (ops : Array Oper) (listed : Array Bool) : Prop :=
  ∀ j oj, ops[j]? = some oj → listed.getD j false = true → ∀ e ∈ oj.after, Region.binds md e = true → listed.getD e.on false = true

theorem ClosedL.reach {listed : Array Bool} (hc : ClosedL md ops listed) : ∀ (fuel j i : Nat), listed.getD j false = true → reachB md ops fuel j i = true → listed.getD i false = true
  | 0, _, _, _, h => by simp [reachB] at h
  | fuel + 1, j, i, hj, h => by
    unfold reachB at h
    split at h
    · rename_i o ho
      obtain ⟨e, he, hb⟩ := Array.any_eq_true'.1 h
      simp only [Bool.and_eq_true, Bool.or_eq_true, beq_iff_eq] at hb
      have hl := hc j o ho hj e he hb.1
      rcases hb.2 with rfl | hr
      · exact hl
      · exact hc.reach fuel e.on i hl hr
    · cases h

theorem reach_ready {listed : Array Bool} (hc : ClosedL md ops listed) {fuel j i : Nat} (hj : j ∈ Region.ready md ops listed) (h : reachB md ops fuel j i = true) : listed.getD i false = true := by
  cases fuel with
  | zero => simp [reachB] at h
  | succ fuel =>
    obtain ⟨_, o, ho, hall⟩ := mem_ready.1 hj
    unfold reachB at h
    simp only [ho] at h
    obtain ⟨e, he, hb⟩ := Array.any_eq_true'.1 h
    simp only [Bool.and_eq_true, Bool.or_eq_true, beq_iff_eq] at hb
    have hl := hall e he hb.1
    rcases hb.2 with rfl | hr
    · exact hl
    · exact hc.reach fuel e.on i hl hr

theorem ClosedL.set {listed : Array Bool} (hc : ClosedL md ops listed) {j : Nat} (hj : j ∈ Region.ready md ops listed) : ClosedL md ops (listed.setIfInBounds j true) := by
  intro k ok hk hl e he hb
  by_cases hjk : j = k
  · subst hjk
    obtain ⟨_, o, ho, hall⟩ := mem_ready.1 hj
    obtain rfl : o = ok := Option.some.inj (ho.symm.trans hk)
    exact getD_set_true (hall e he hb)
  · rw [getD_set_ne false hjk] at hl
    exact getD_set_true (hc k ok hk hl e he hb)

/-- Whatever order is picked from here on; S holds behind each operation of T. -/
def wpAnyG (P : Program) (md : Region.Mode) (ops : Array Oper) (Q : Exit → Act → World → Prop) (S : World → Prop) (T : Nat → Bool) : Nat → Array Bool → Act → World → Prop
  | 0, listed, a, w => Region.ready md ops listed = [] ∧ Q .normal a w
  | fuel + 1, listed, a, w =>
    (Region.ready md ops listed = [] → Q .normal a w) ∧
    ∀ i ∈ Region.ready md ops listed, wpOp P ops Q i (fun a' w' => (T i = true → S w → S w') ∧ wpAnyG P md ops Q S T fuel (listed.setIfInBounds i true) a' w') a w

theorem wpAny_of_G : ∀ (fuel : Nat) (listed : Array Bool) (a : Act) (w : World), wpAnyG P md ops Q S T fuel listed a w → wpAny P md ops Q fuel listed a w
  | 0, _, _, _, h => h
  | fuel + 1, _, _, _, h => ⟨h.1, fun i hi => wpOp_mono (fun a' w' h' => wpAny_of_G fuel _ a' w' h'.2) (h.2 i hi)⟩

theorem wpAnyG_first {S' : World → Prop} {i : Nat} {oi : Oper} {v : Value} (hi : ops[i]? = some oi) (hsel : ∀ (j : Nat) (o : Oper) cs b, ops[j]? = some o → o.op ≠ .select cs b)
    (hQ : ∀ c a w, Q (.panic c) (a.put oi.dst v) w → Q (.panic c) a w) :
    ∀ (fuel : Nat) (listed : Array Bool) (a : Act) (w : World), ClosedL md ops listed →
      (∀ j oj, ops[j]? = some oj → j ≠ i → listed.getD j true = false → (∀ e ∈ oj.after, Region.binds md e = true → e.on ≠ i) → oi.apart ops oj = true) →
      (∀ j, j < ops.size → j ≠ i → listed.getD j true = false → reachB md ops ops.size j i = false → ∀ w w', (T j = true → S w → S w') → S' w → S' w') →
      i ∈ Region.ready md ops listed → YieldsIf P ops S' oi v a → S' w →
      wpAnyG P md ops Q S T fuel (listed.setIfInBounds i true) (a.put oi.dst v) w → wpAnyG P md ops Q S T (fuel + 1) listed a w := by
  intro fuel
  induction fuel with
  | zero =>
    intro listed a w hc _ _ hr hy hS' H
    refine ⟨fun h => (by rw [h] at hr; cases hr), fun j hj => ?_⟩
    by_cases hji : j = i
    · subst hji; exact hy.wpOp hi hS' ⟨fun _ h => h, H⟩
    · have := ready_mono hj hji
      rw [H.1] at this
      cases this
  | succ fuel ih =>
    intro listed a w hc hfree hT hr hy hS' H
    refine ⟨fun h => (by rw [h] at hr; cases hr), fun j hj => ?_⟩
    by_cases hji : j = i
    · subst hji; exact hy.wpOp hi hS' ⟨fun _ h => h, H⟩
    · have h1 := H.2 j (ready_mono hj hji)
      obtain ⟨hjun, oj, hoj, hall⟩ := mem_ready.1 hj
      have hiun : listed.getD i false = false := by
        have h0 := (mem_ready.1 hr).1
        rcases Nat.lt_or_ge i listed.size with h' | h'
        · simp [h'] at h0 ⊢; exact h0
        · simp [Array.getElem?_eq_none h'] at h0
      have hnot : ∀ e ∈ oj.after, Region.binds md e = true → e.on ≠ i := fun e he hb heq => by
        have h1 := hall e he hb
        rw [heq, hiun] at h1
        cases h1
      have hreach : reachB md ops ops.size j i = false := by
        cases hb : reachB md ops ops.size j i with
        | false => rfl
        | true => have := reach_ready hc hj hb; rw [hiun] at this; cases this
      have h2 := wpOp_putIf hoj (hfree j oj hoj hji hjun hnot) (fun cs b => hsel i oi cs b hi) (fun cs b => hsel j oj cs b hoj) hQ hy h1
      have hfree' : ∀ k ok, ops[k]? = some ok → k ≠ i → (listed.setIfInBounds j true).getD k true = false →
          (∀ e ∈ ok.after, Region.binds md e = true → e.on ≠ i) → oi.apart ops ok = true := fun k ok hk hki hun hno => by
        refine hfree k ok hk hki ?_ hno
        by_cases hjk : j = k
        · subst hjk; exact hjun
        · rw [getD_set_ne true hjk] at hun; exact hun
      have hT' : ∀ k, k < ops.size → k ≠ i → (listed.setIfInBounds j true).getD k true = false → reachB md ops ops.size k i = false → ∀ w w', (T k = true → S w → S w') → S' w → S' w' := fun k hks hki hun hno => by
        refine hT k hks hki ?_ hno
        by_cases hjk : j = k
        · subst hjk; exact hjun
        · rw [getD_set_ne true hjk] at hun; exact hun
      have hSj := hT j (Array.getElem?_eq_some_iff.1 hoj).1 hji hjun hreach
      refine wpOp_mono (fun a' w' h3 => ?_) h2
      obtain ⟨hy3, hTS, H3⟩ := h3
      exact ⟨hTS, ih (listed.setIfInBounds j true) a' w' (hc.set hj) hfree' hT' (ready_mono hr (Ne.symm hji)) hy3 (hSj w w' hTS hS') (by rw [Array.setIfInBounds_comm _ _ hji]; exact H3)⟩

/-- Does an operation do the same in whatever world? -/
def pureOp : Op → Bool
  | .move _ | .assign _ | .pick .. | .nilCheck _ | .fieldAddr .. | .field .. | .binOp .. | .unOp .. | .build .. | .extract .. | .indexAddr .. | .slice .. => true
  | .call { callee := .builtin .len, .. } => true
  | .call { callee := .builtin .cap, .. } => true
  | _ => false

/-- Does it make a new block, and nothing else? -/
def newOp : Op → Bool
  | .alloc _ | .box .. | .buildSlice .. => true
  | _ => false

/-- The first operations, i to i + n, one behind the other. -/
def headOk (md : Region.Mode) (ops : Array Oper) (m : Nat) : Nat → Nat → Array Bool → Bool
  | 0, _, _ => true
  | n + 1, i, listed => Region.free md ops listed i && (Region.ready md ops listed).contains i &&
      (((ops[i]?).map (fun o => pureOp o.op)).getD false || (List.range ops.size).all fun j => j == i || listed.getD j true || reachB md ops ops.size j i || decide (j < m)) &&
      headOk md ops m n (i + 1) (listed.setIfInBounds i true)

def listFrom : Nat → Nat → Array Bool → Array Bool
  | 0, _, listed => listed
  | n + 1, i, listed => listFrom n (i + 1) (listed.setIfInBounds i true)

/-- The others, each alone. -/
def tailOk (md : Region.Mode) (ops : Array Oper) : Nat → Nat → Array Bool → Bool
  | 0, _, listed => (Region.ready md ops listed).isEmpty
  | n + 1, i, listed => Region.ready md ops listed == [i] && tailOk md ops n (i + 1) (listed.setIfInBounds i true)

def newTo (ops : Array Oper) (n m : Nat) : Bool := (List.range ops.size).all fun j => decide (j < n) || decide (m ≤ j) || ((ops[j]?).map (fun o => newOp o.op)).getD false

def planOk (md : Region.Mode) (ops : Array Oper) (n m : Nat) : Bool :=
  Region.noSelect ops && decide (n ≤ ops.size) && newTo ops n m && headOk md ops m n 0 (Array.replicate ops.size false) &&
    tailOk md ops (ops.size - n) n (listFrom n 0 (Array.replicate ops.size false))

/-- The first operations, walked: each leaves its value in whatever world meets S. -/
def stillS (P : Program) (ops : Array Oper) (S : World → Prop) (K : Act → Prop) : List Oper → Act → Prop
  | [], a => K a
  | o :: rest, a => ∃ v, YieldsIf P ops (fun w => pureOp o.op = false → S w) o v a ∧ stillS P ops S K rest (a.put o.dst v)

theorem stillS_nil {K : Act → Prop} {a : Act} (h : K a) : stillS P ops S K [] a := h
theorem stillS_cons {K : Act → Prop} {a : Act} {o : Oper} {rest : List Oper} {v : Value} (hg : o.guard = none) (hy : ∀ w, (pureOp o.op = false → S w) → (execOp a.eval o).run P w = .ok (.value v) w)
    (h : stillS P ops S K rest (a.put o.dst v)) : stillS P ops S K (o :: rest) a := ⟨v, .inl ⟨by simp [Region.wanted, hg], hy⟩, h⟩

theorem ready_cons {listed : Array Bool} {i : Nat} {l : List Nat} (h : Region.ready md ops listed = i :: l) : i ∈ Region.ready md ops listed := by rw [h]; simp

theorem heads_go {m : Nat} (hsel : Region.noSelect ops = true) (hQ : ∀ (c : List PanicEntry) (a : Act) (d : Option Tmp) (v : Value) (w : World), Q (.panic c) (a.put d v) w → Q (.panic c) a w) {fuel : Nat} {w : World} (hS : S w) {K : Act → Prop} :
    ∀ (hs : List Oper) (i : Nat) (listed : Array Bool) (a : Act), (∀ j, j < hs.length → ops[i + j]? = hs[j]?) → headOk md ops m hs.length i listed = true → ClosedL md ops listed → stillS P ops S K hs a →
      (∀ a', K a' → ClosedL md ops (listFrom hs.length i listed) → wpAnyG P md ops Q S (fun j => decide (j < m)) fuel (listFrom hs.length i listed) a' w) → wpAnyG P md ops Q S (fun j => decide (j < m)) (hs.length + fuel) listed a w
  | [], i, listed, a, _, _, hc, hst, hK => by
    simp only [List.length_nil, Nat.zero_add]
    exact hK a hst hc
  | o :: hs, i, listed, a, hix, hok, hc, hst, hK => by
    simp only [List.length_cons, headOk, Bool.and_eq_true] at hok
    obtain ⟨⟨⟨hf, hr⟩, hp⟩, hok⟩ := hok
    obtain ⟨v, hy, hst⟩ := hst
    have ho : ops[i]? = some o := by simpa using hix 0 (by simp)
    have hri : i ∈ Region.ready md ops listed := by simpa using hr
    have := wpAnyG_first (S := S) (T := fun j => decide (j < m)) (S' := fun w => pureOp o.op = false → S w) ho (Region.noSelect_spec hsel) (fun c a w => hQ c a o.dst v w) (hs.length + fuel) listed a w hc (Region.free_spec ho hf)
      (fun j hj hji hun hre w w' hT h hpf => by
        simp only [ho, Option.map_some, Option.getD_some, hpf, Bool.false_or, List.all_eq_true, List.mem_range, Bool.or_eq_true, beq_iff_eq] at hp
        rcases hp j hj with ((h1 | h1) | h1) | h1
        · exact absurd h1 hji
        · rw [hun] at h1; cases h1
        · rw [hre] at h1; cases h1
        · exact hT h1 (h hpf))
      hri hy (fun _ => hS)
      (heads_go hsel hQ hS hs (i + 1) (listed.setIfInBounds i true) (a.put o.dst v) (fun j hj => by have := hix (j + 1) (by simpa using hj); simpa [Nat.add_assoc, Nat.add_comm 1 j] using this) hok (hc.set hri) hst
        (fun a' ha' hc' => hK a' ha' hc'))
    rw [List.length_cons, Nat.add_right_comm]
    exact this

/-- A computation that reads, or gives up; one that makes a new block at its end, or gives up. -/
def Reads (P : Program) {α : Type} (c : Sem α) : Prop := ∀ w, (∃ v, c.run P w = .ok v w) ∨ ∃ e w', c.run P w = .halt e w'
def Makes (P : Program) {α : Type} (c : Sem α) : Prop := ∀ w, (∃ v x, c.run P w = .ok v (World.alloc w x)) ∨ ∃ e w', c.run P w = .halt e w'
theorem Reads.pure {α : Type} (v : α) : Reads P (Pure.pure v : Sem α) := fun w => .inl ⟨v, by simp⟩
theorem Reads.halt {α : Type} (e : Halt) : Reads P (Sem.halt e : Sem α) := fun w => .inr ⟨e, w, rfl⟩
theorem Makes.halt {α : Type} (e : Halt) : Makes P (Sem.halt e : Sem α) := fun w => .inr ⟨e, w, rfl⟩
theorem Reads.bind {α β : Type} {c : Sem α} {f : α → Sem β} (h : Reads P c) (hf : ∀ v, Reads P (f v)) : Reads P (c >>= f) := fun w => by
  rw [Sem.run_bind]
  rcases h w with ⟨v, hv⟩ | ⟨e, w', he⟩
  · rw [hv]; exact hf v w
  · rw [he]; exact .inr ⟨e, w', rfl⟩
theorem Makes.bind {α β : Type} {c : Sem α} {f : α → Sem β} (h : Reads P c) (hf : ∀ v, Makes P (f v)) : Makes P (c >>= f) := fun w => by
  rw [Sem.run_bind]
  rcases h w with ⟨v, hv⟩ | ⟨e, w', he⟩
  · rw [hv]; exact hf v w
  · rw [he]; exact .inr ⟨e, w', rfl⟩
theorem Reads.typeInfo (t : TypeId) : Reads P (typeInfo t) := fun w => by
  unfold Go.typeInfo
  cases hq : P.info? t with
  | none => exact .inr ⟨.stuck _, w, by simp [hq, stuck]; rfl⟩
  | some i => exact .inl ⟨i, by simp [hq]⟩
theorem Reads.underlying (t : TypeId) : Reads P (underlying t) := fun w => by
  unfold Go.underlying
  cases hq : P.underlying t with
  | none => exact .inr ⟨.stuck _, w, by simp [hq, stuck]; rfl⟩
  | some i => exact .inl ⟨i, by simp [hq]⟩
theorem Reads.sizeOf (t : TypeId) : Reads P (sizeOf t) := by
  unfold Go.sizeOf
  exact Reads.bind (Reads.typeInfo t) fun v => Reads.pure _
theorem Reads.zeroValue (t : TypeId) : Reads P (zeroValue t) := by
  unfold Go.zeroValue
  refine Reads.bind (Reads.typeInfo t) fun v => ?_
  cases v.zero with
  | none => exact Reads.halt _
  | some z => exact Reads.pure z
theorem Makes.newRow (t : TypeId) (cs : Array Value) (f : Addr → Value) : Makes P (do Pure.pure (f (← newRow t cs))) := fun w => .inl ⟨f ⟨w.heap.size, 0, none⟩, .cells cs t, by simp [Go.newRow]⟩

theorem Makes.buildSlice (t : TypeId) (n : Nat) (parts : Array (Nat × Value)) : Makes P (Instr.buildSlice t n parts) := by
  unfold Instr.buildSlice
  refine Makes.bind (Reads.underlying t) fun d => ?_
  split
  · rename_i elem
    refine Makes.bind (Reads.sizeOf elem) fun size => ?_
    have fin : ∀ zero : Array Value, Makes P (match Instr.fill (fun i => some (i * size, size)) ((Array.range (n * size)).map (zero[· % zero.size]!)) parts.toList with
      | some cells => (do Pure.pure (Value.slice (some (← Go.newRow elem cells)) n n) : Sem Value)
      | _ => stuck "buildSlice: a part of the wrong size") := fun zero => by
      split
      · rename_i cells _
        exact Makes.newRow elem cells fun a => .slice (some a) n n
      · exact Makes.halt _
    split
    · dsimp only
      split
      · exact Makes.bind (Reads.halt _) fun _ => fin _
      · exact fin _
    · dsimp only
      split
      · exact Makes.bind (Reads.halt _) fun _ => Makes.bind (Reads.zeroValue elem) fun z => fin z.cells
      · exact Makes.bind (Reads.zeroValue elem) fun z => fin z.cells
  · exact Makes.halt _

/-- What makes a new block keeps what holds behind new blocks. -/
theorem run_newOp {o : Oper} (h : newOp o.op = true) (ρ : Operand → Value) (w : World) :
    (∃ v x, (execOp ρ o).run P w = .ok (.value v) (World.alloc w x)) ∨ (∃ e w', (execOp ρ o).run P w = .halt e w') := by
  obtain ⟨dst, op, type, pos, after, guard⟩ := o
  have val : ∀ {c : Sem Value}, Makes P c → (∃ v x, (do Pure.pure (Next.value (← c)) : Sem Next).run P w = .ok (.value v) (World.alloc w x)) ∨ (∃ e w', (do Pure.pure (Next.value (← c)) : Sem Next).run P w = .halt e w') := fun {c} h => by
    rcases h w with ⟨v, x, hr⟩ | ⟨e, w', hr⟩
    · exact .inl ⟨v, x, by simp [hr]⟩
    · exact .inr ⟨e, w', by simp [hr]⟩
  cases op <;> simp only [newOp, Bool.false_eq_true] at h
  case alloc e => exact val (c := Instr.alloc e true (.tuple #[])) (Makes.bind (Reads.zeroValue e) fun z => Makes.newRow e z.cells fun a => .pointer (some a))
  case box e v => exact val (c := Instr.box e (ρ v)) (Makes.newRow e (ρ v).cells fun a => .pointer (some a))
  case buildSlice t n parts => exact val (Makes.buildSlice t n _)

theorem wp_newOp {o : Oper} {a : Act} {w : World} {K : Act → World → Prop} (h : newOp o.op = true) (hSa : ∀ w x, S w → S (World.alloc w x)) (hw : o.wp P a w K Q) : o.wp P a w (fun a' w' => (S w → S w') ∧ K a' w') Q := by
  unfold Oper.wp at *
  rcases run_newOp (P := P) h a.eval w with ⟨v, x, hr⟩ | ⟨e, w', hr⟩
  · rw [hr] at hw ⊢
    exact ⟨fun hs => hSa _ _ hs, hw⟩
  · rw [hr] at hw ⊢
    cases e <;> exact hw

theorem tails_go {n m : Nat} (hSa : ∀ w x, S w → S (World.alloc w x)) (hnew : newTo ops n m = true) :
    ∀ (ts : List Oper) (i : Nat) (listed : Array Bool) (a : Act) (w : World), n ≤ i → (∀ j, j < ts.length → ops[i + j]? = ts[j]?) → tailOk md ops ts.length i listed = true → wpList P ops Q ts a w →
      wpAnyG P md ops Q S (fun j => decide (j < m)) ts.length listed a w
  | [], i, listed, a, w, _, _, hok, h => by
    simp only [List.length_nil, tailOk, List.isEmpty_iff] at hok
    exact ⟨hok, h⟩
  | o :: ts, i, listed, a, w, hni, hix, hok, h => by
    simp only [List.length_cons, tailOk, Bool.and_eq_true, beq_iff_eq] at hok
    obtain ⟨hr, hok⟩ := hok
    have ho : ops[i]? = some o := by simpa using hix 0 (by simp)
    have hiS : i < ops.size := (Array.getElem?_eq_some_iff.1 ho).1
    have hnx : i < m → newOp o.op = true := fun him => by
      have := List.all_eq_true.1 hnew i (List.mem_range.2 hiS)
      simp only [Bool.or_eq_true, decide_eq_true_eq, ho, Option.map_some, Option.getD_some] at this
      rcases this with (h1 | h1) | h1
      · omega
      · omega
      · exact h1
    have ih : ∀ a' w', wpList P ops Q ts a' w' → wpAnyG P md ops Q S (fun j => decide (j < m)) ts.length (listed.setIfInBounds i true) a' w' := fun a' w' h' =>
      tails_go hSa hnew ts (i + 1) (listed.setIfInBounds i true) a' w' (by omega) (fun j hj => by have := hix (j + 1) (by simpa using hj); simpa [Nat.add_assoc, Nat.add_comm 1 j] using this) hok h'
    refine ⟨fun h0 => (by rw [hr] at h0; cases h0), fun j hj => ?_⟩
    rw [hr] at hj
    obtain rfl : j = i := by simpa using hj
    unfold wpOp
    simp only [ho]
    simp only [wpList] at h
    split
    · rename_i hw
      simp only [hw, if_true] at h
      refine h.imp (fun h => ?_) id
      by_cases him : j < m
      · exact Oper.wp_mono (fun a' w' h' => ⟨fun _ => h'.1, ih _ _ h'.2⟩) (wp_newOp (hnx him) hSa h)
      · exact Oper.wp_mono (fun a' w' h' => ⟨fun hT => absurd (by simpa using hT) him, ih _ _ h'⟩) h
    · rename_i hw
      simp only [hw] at h
      exact ⟨fun _ hs => hs, ih _ _ h⟩

theorem cell_new {w : World} {a : Addr} {v : Value} (h : w.cell? a = some v) (o : Obj) : (w.alloc o).cell? a = some v := (World.cell?_alloc_lt w o a (World.block_lt_of_cell? w a h)).trans h

/-- THE LAW. -/
theorem wp_region_plan {id : Nat} {a : Act} {w : World} {l : List Oper} (n m : Nat) (S : World → Prop) (hm : P.follows .mixedOrders = true) (hB : planOk .any l.toArray n m = true)
    (hQ : ∀ (c : List PanicEntry) (a : Act) (d : Option Tmp) (v : Value) (w : World), Q (.panic c) (a.put d v) w → Q (.panic c) a w) (hSa : ∀ w x, S w → S (World.alloc w x)) (hS : S w.drew)
    (h : stillS P l.toArray S (fun a' => wpList P l.toArray Q (l.drop n) a' w.drew) (l.take n) a) : (Code.region id l.toArray true).wp P Q a w := by
  simp only [planOk, Bool.and_eq_true, decide_eq_true_eq] at hB
  obtain ⟨⟨⟨⟨hsel, hn⟩, hnew⟩, hhead⟩, htail⟩ := hB
  have hnl : n ≤ l.length := by simpa using hn
  have htl : (l.take n).length = n := by simp; omega
  have hdl : (l.drop n).length = l.toArray.size - n := by simp
  have hcl : ClosedL .any l.toArray (Array.replicate l.toArray.size false) := fun j oj _ hl => by
    exfalso
    rcases Nat.lt_or_ge j l.toArray.size with h' | h' <;> simp_all
  refine wp_region_any hm (wpAny_of_G (S := S) (T := fun j => decide (j < m)) _ _ _ _ ?_)
  have key := heads_go (m := m) (md := .any) (ops := l.toArray) (P := P) (Q := Q) hsel hQ (fuel := l.toArray.size - n) (w := w.drew) hS (l.take n) 0 (Array.replicate l.toArray.size false) a
    (fun j hj => by rw [htl] at hj; simp [hj]) (by rw [htl]; exact hhead) hcl h
    (fun a' ha' _ => by
      rw [htl]
      have := tails_go (md := .any) (P := P) (Q := Q) (S := S) hSa hnew (l.drop n) n (listFrom n 0 (Array.replicate l.toArray.size false)) a' w.drew (Nat.le_refl n) (fun j _ => by simp [List.getElem?_drop]) (by rw [hdl]; exact htail) ha'
      rwa [hdl] at this)
  rw [htl, show n + (l.toArray.size - n) = l.toArray.size by simp; omega] at key
  exact key

end
end Go.Proofs.Ytpfnemkfbelpcaa
