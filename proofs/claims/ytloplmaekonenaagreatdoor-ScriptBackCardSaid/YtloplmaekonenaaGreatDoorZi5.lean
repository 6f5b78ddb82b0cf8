/-
  A region that draws its order, whose first n operations only read: one walk, in the order of the text. The operations behind those may make new blocks ahead of a read; whatever writes must wait for all reads that the world bears upon. All side conditions are the kernel's.
  A region that draws its order, walked once in an order of our own: first what only reads, then what keeps what those read, then the others.
  The Reader's Event.
-/
import Derived.WalkKit
import Derived.OrdersHeld
import Derived.KernelRfl
import Derived.Test.YtloplmaekonenaaGreatDoorZi3
import Derived.Test.YtloplmaekonenaaGreatDoorZi4
namespace Go.Proofs.YtloplmaekonenaaGreatDoor
set_option maxRecDepth 20000
open Go.RowKit
section
variable {P : Program} {ops : Array Oper} {Q : Exit → Act → World → Prop} {md : Region.Mode} {S : World → Prop} {T : Nat → Bool}
def reachB (md : Region.Mode) (ops : Array Oper) : Nat → Nat → Nat → Bool
  | 0, _, _ => false
  | fuel + 1, j, i => match ops[j]? with
    | some o => o.after.any fun e => Region.binds md e && (e.on == i || reachB md ops fuel e.on i)
    | none => false
def ClosedL (md : Region.Mode) (ops : Array Oper) (listed : Array Bool) : Prop :=
  ∀ j oj, ops[j]? = some oj → listed.getD j false = true → ∀ e ∈ oj.after, Region.binds md e = true → listed.getD e.on false = true
theorem ClosedL.reach {listed : Array Bool} (hc : ClosedL md ops listed) : ∀ (fuel j i : Nat), listed.getD j false = true → reachB md ops fuel j i = true → listed.getD i false = true
  | 0, _, _, _, h => by simp [reachB] at h
  | fuel + 1, j, i, hj, h => by
    unfold reachB at h
    split at h
    · rename_i o ho
      obtain ⟨e, he, hb⟩ := Array.any_eq_true'.1 h
      simp only [Bool.and_eq_true, Bool.or_eq_true, beq_iff_eq] at hb
      have hl := hc j o ho hj e he hb.1
      rcases hb.2 with rfl | hr
      · exact hl
      · exact hc.reach fuel e.on i hl hr
    · cases h
theorem reach_ready {listed : Array Bool} (hc : ClosedL md ops listed) {fuel j i : Nat} (hj : j ∈ Region.ready md ops listed) (h : reachB md ops fuel j i = true) : listed.getD i false = true := by
  cases fuel with
  | zero => simp [reachB] at h
  | succ fuel =>
    obtain ⟨_, o, ho, hall⟩ := mem_ready.1 hj
    unfold reachB at h
    simp only [ho] at h
    obtain ⟨e, he, hb⟩ := Array.any_eq_true'.1 h
    simp only [Bool.and_eq_true, Bool.or_eq_true, beq_iff_eq] at hb
    have hl := hall e he hb.1
    rcases hb.2 with rfl | hr
    · exact hl
    · exact hc.reach fuel e.on i hl hr
theorem ClosedL.set {listed : Array Bool} (hc : ClosedL md ops listed) {j : Nat} (hj : j ∈ Region.ready md ops listed) : ClosedL md ops (listed.setIfInBounds j true) := by
  intro k ok hk hl e he hb
  by_cases hjk : j = k
  · subst hjk
    obtain ⟨_, o, ho, hall⟩ := mem_ready.1 hj
    obtain rfl : o = ok := Option.some.inj (ho.symm.trans hk)
    exact getD_set_true (hall e he hb)
  · rw [getD_set_ne false hjk] at hl
    exact getD_set_true (hc k ok hk hl e he hb)
def wpAnyG (P : Program) (md : Region.Mode) (ops : Array Oper) (Q : Exit → Act → World → Prop) (S : World → Prop) (T : Nat → Bool) : Nat → Array Bool → Act → World → Prop
  | 0, listed, a, w => Region.ready md ops listed = [] ∧ Q .normal a w
  | fuel + 1, listed, a, w =>
    (Region.ready md ops listed = [] → Q .normal a w) ∧
    ∀ i ∈ Region.ready md ops listed, wpOp P ops Q i (fun a' w' => (T i = true → S w → S w') ∧ wpAnyG P md ops Q S T fuel (listed.setIfInBounds i true) a' w') a w
theorem wpAny_of_G : ∀ (fuel : Nat) (listed : Array Bool) (a : Act) (w : World), wpAnyG P md ops Q S T fuel listed a w → wpAny P md ops Q fuel listed a w
  | 0, _, _, _, h => h
  | fuel + 1, _, _, _, h => ⟨h.1, fun i hi => wpOp_mono (fun a' w' h' => wpAny_of_G fuel _ a' w' h'.2) (h.2 i hi)⟩
theorem wpAnyG_first {S' : World → Prop} {i : Nat} {oi : Oper} {v : Value} (hi : ops[i]? = some oi) (hsel : ∀ (j : Nat) (o : Oper) cs b, ops[j]? = some o → o.op ≠ .select cs b)
    (hQ : ∀ c a w, Q (.panic c) (a.put oi.dst v) w → Q (.panic c) a w) :
    ∀ (fuel : Nat) (listed : Array Bool) (a : Act) (w : World), ClosedL md ops listed →
      (∀ j oj, ops[j]? = some oj → j ≠ i → listed.getD j true = false → (∀ e ∈ oj.after, Region.binds md e = true → e.on ≠ i) → oi.apart ops oj = true) →
      (∀ j, j < ops.size → j ≠ i → listed.getD j true = false → reachB md ops ops.size j i = false → ∀ w w', (T j = true → S w → S w') → S' w → S' w') →
      i ∈ Region.ready md ops listed → YieldsIf P ops S' oi v a → S' w →
      wpAnyG P md ops Q S T fuel (listed.setIfInBounds i true) (a.put oi.dst v) w → wpAnyG P md ops Q S T (fuel + 1) listed a w := by
  intro fuel
  induction fuel with
  | zero =>
    intro listed a w hc _ _ hr hy hS' H
    refine ⟨fun h => (by rw [h] at hr; cases hr), fun j hj => ?_⟩
    by_cases hji : j = i
    · subst hji; exact hy.wpOp hi hS' ⟨fun _ h => h, H⟩
    · have := ready_mono hj hji
      rw [H.1] at this
      cases this
  | succ fuel ih =>
    intro listed a w hc hfree hT hr hy hS' H
    refine ⟨fun h => (by rw [h] at hr; cases hr), fun j hj => ?_⟩
    by_cases hji : j = i
    · subst hji; exact hy.wpOp hi hS' ⟨fun _ h => h, H⟩
    · have h1 := H.2 j (ready_mono hj hji)
      obtain ⟨hjun, oj, hoj, hall⟩ := mem_ready.1 hj
      have hiun : listed.getD i false = false := by
        have h0 := (mem_ready.1 hr).1
        rcases Nat.lt_or_ge i listed.size with h' | h'
        · simp [h'] at h0 ⊢; exact h0
        · simp [Array.getElem?_eq_none h'] at h0
      have hnot : ∀ e ∈ oj.after, Region.binds md e = true → e.on ≠ i := fun e he hb heq => by
        have h1 := hall e he hb
        rw [heq, hiun] at h1
        cases h1
      have hreach : reachB md ops ops.size j i = false := by
        cases hb : reachB md ops ops.size j i with
        | false => rfl
        | true => have := reach_ready hc hj hb; rw [hiun] at this; cases this
      have h2 := wpOp_putIf hoj (hfree j oj hoj hji hjun hnot) (fun cs b => hsel i oi cs b hi) (fun cs b => hsel j oj cs b hoj) hQ hy h1
      have hfree' : ∀ k ok, ops[k]? = some ok → k ≠ i → (listed.setIfInBounds j true).getD k true = false →
          (∀ e ∈ ok.after, Region.binds md e = true → e.on ≠ i) → oi.apart ops ok = true := fun k ok hk hki hun hno => by
        refine hfree k ok hk hki ?_ hno
        by_cases hjk : j = k
        · subst hjk; exact hjun
        · rw [getD_set_ne true hjk] at hun; exact hun
      have hT' : ∀ k, k < ops.size → k ≠ i → (listed.setIfInBounds j true).getD k true = false → reachB md ops ops.size k i = false → ∀ w w', (T k = true → S w → S w') → S' w → S' w' := fun k hks hki hun hno => by
        refine hT k hks hki ?_ hno
        by_cases hjk : j = k
        · subst hjk; exact hjun
        · rw [getD_set_ne true hjk] at hun; exact hun
      have hSj := hT j (Array.getElem?_eq_some_iff.1 hoj).1 hji hjun hreach
      refine wpOp_mono (fun a' w' h3 => ?_) h2
      obtain ⟨hy3, hTS, H3⟩ := h3
      exact ⟨hTS, ih (listed.setIfInBounds j true) a' w' (hc.set hj) hfree' hT' (ready_mono hr (Ne.symm hji)) hy3 (hSj w w' hTS hS') (by rw [Array.setIfInBounds_comm _ _ hji]; exact H3)⟩
def pureOp : Op → Bool
  | .move _ | .assign _ | .pick .. | .nilCheck _ | .fieldAddr .. | .field .. | .binOp .. | .unOp .. | .build .. | .extract .. | .indexAddr .. | .slice .. => true
  | .call { callee := .builtin .len, .. } => true
  | .call { callee := .builtin .cap, .. } => true
  | _ => false
def stillS (P : Program) (ops : Array Oper) (S : World → Prop) (K : Act → Prop) : List Oper → Act → Prop
  | [], a => K a
  | o :: rest, a => ∃ v, YieldsIf P ops (fun w => pureOp o.op = false → S w) o v a ∧ stillS P ops S K rest (a.put o.dst v)
theorem stillS_nil {K : Act → Prop} {a : Act} (h : K a) : stillS P ops S K [] a := h
theorem stillS_cons {K : Act → Prop} {a : Act} {o : Oper} {rest : List Oper} {v : Value} (hg : o.guard = none) (hy : ∀ w, (pureOp o.op = false → S w) → (execOp a.eval o).run P w = .ok (.value v) w)
    (h : stillS P ops S K rest (a.put o.dst v)) : stillS P ops S K (o :: rest) a := ⟨v, .inl ⟨by simp [Region.wanted, hg], hy⟩, h⟩
def Reads (P : Program) {α : Type} (c : Sem α) : Prop := ∀ w, (∃ v, c.run P w = .ok v w) ∨ ∃ e w', c.run P w = .halt e w'
def Makes (P : Program) {α : Type} (c : Sem α) : Prop := ∀ w, (∃ v x, c.run P w = .ok v (World.alloc w x)) ∨ ∃ e w', c.run P w = .halt e w'
theorem Reads.pure {α : Type} (v : α) : Reads P (Pure.pure v : Sem α) := fun w => .inl ⟨v, by simp⟩
theorem Reads.halt {α : Type} (e : Halt) : Reads P (Sem.halt e : Sem α) := fun w => .inr ⟨e, w, rfl⟩
theorem Makes.halt {α : Type} (e : Halt) : Makes P (Sem.halt e : Sem α) := fun w => .inr ⟨e, w, rfl⟩
theorem Reads.bind {α β : Type} {c : Sem α} {f : α → Sem β} (h : Reads P c) (hf : ∀ v, Reads P (f v)) : Reads P (c >>= f) := fun w => by
  rw [Sem.run_bind]
  rcases h w with ⟨v, hv⟩ | ⟨e, w', he⟩
  · rw [hv]; exact hf v w
  · rw [he]; exact .inr ⟨e, w', rfl⟩
theorem Makes.bind {α β : Type} {c : Sem α} {f : α → Sem β} (h : Reads P c) (hf : ∀ v, Makes P (f v)) : Makes P (c >>= f) := fun w => by
  rw [Sem.run_bind]
  rcases h w with ⟨v, hv⟩ | ⟨e, w', he⟩
  · rw [hv]; exact hf v w
  · rw [he]; exact .inr ⟨e, w', rfl⟩
theorem Reads.typeInfo (t : TypeId) : Reads P (typeInfo t) := fun w => by
  unfold Go.typeInfo
  cases hq : P.info? t with
  | none => exact .inr ⟨.stuck _, w, by simp [hq, stuck]; rfl⟩
  | some i => exact .inl ⟨i, by simp [hq]⟩
theorem Reads.underlying (t : TypeId) : Reads P (underlying t) := fun w => by
  unfold Go.underlying
  cases hq : P.underlying t with
  | none => exact .inr ⟨.stuck _, w, by simp [hq, stuck]; rfl⟩
  | some i => exact .inl ⟨i, by simp [hq]⟩
theorem Reads.sizeOf (t : TypeId) : Reads P (sizeOf t) := by
  unfold Go.sizeOf
  exact Reads.bind (Reads.typeInfo t) fun v => Reads.pure _
theorem Reads.zeroValue (t : TypeId) : Reads P (zeroValue t) := by
  unfold Go.zeroValue
  refine Reads.bind (Reads.typeInfo t) fun v => ?_
  cases v.zero with
  | none => exact Reads.halt _
  | some z => exact Reads.pure z
theorem Makes.newRow (t : TypeId) (cs : Array Value) (f : Addr → Value) : Makes P (do Pure.pure (f (← newRow t cs))) := fun w => .inl ⟨f ⟨w.heap.size, 0, none⟩, .cells cs t, by simp [Go.newRow]⟩
theorem Makes.buildSlice (t : TypeId) (n : Nat) (parts : Array (Nat × Value)) : Makes P (Instr.buildSlice t n parts) := by
  unfold Instr.buildSlice
  refine Makes.bind (Reads.underlying t) fun d => ?_
  split
  · rename_i elem
    refine Makes.bind (Reads.sizeOf elem) fun size => ?_
    have fin : ∀ zero : Array Value, Makes P (match Instr.fill (fun i => some (i * size, size)) ((Array.range (n * size)).map (zero[· % zero.size]!)) parts.toList with
      | some cells => (do Pure.pure (Value.slice (some (← Go.newRow elem cells)) n n) : Sem Value)
      | _ => stuck "buildSlice: a part of the wrong size") := fun zero => by
      split
      · rename_i cells _
        exact Makes.newRow elem cells fun a => .slice (some a) n n
      · exact Makes.halt _
    split
    · dsimp only
      split
      · exact Makes.bind (Reads.halt _) fun _ => fin _
      · exact fin _
    · dsimp only
      split
      · exact Makes.bind (Reads.halt _) fun _ => Makes.bind (Reads.zeroValue elem) fun z => fin z.cells
      · exact Makes.bind (Reads.zeroValue elem) fun z => fin z.cells
  · exact Makes.halt _
theorem cell_new {w : World} {a : Addr} {v : Value} (h : w.cell? a = some v) (o : Obj) : (w.alloc o).cell? a = some v := (World.cell?_alloc_lt w o a (World.block_lt_of_cell? w a h)).trans h
end
end Go.Proofs.YtloplmaekonenaaGreatDoor
namespace Go.Proofs.YtloplmaekonenaaGreatDoor
set_option maxRecDepth 20000
open Go.RowKit
section
variable {P : Program} {ops : Array Oper} {Q : Exit → Act → World → Prop} {md : Region.Mode} {S : World → Prop} {T : Nat → Bool}
def headOk2 (md : Region.Mode) (ops : Array Oper) (T : Nat → Bool) : List Nat → Array Bool → Bool
  | [], _ => true
  | i :: is, listed => Region.free md ops listed i && (Region.ready md ops listed).contains i &&
      (((ops[i]?).map (fun o => pureOp o.op)).getD false || (List.range ops.size).all fun j => j == i || listed.getD j true || reachB md ops ops.size j i || T j) &&
      headOk2 md ops T is (listed.setIfInBounds i true)
def listBy : List Nat → Array Bool → Array Bool
  | [], listed => listed
  | i :: is, listed => listBy is (listed.setIfInBounds i true)
def tailOk2 (md : Region.Mode) (ops : Array Oper) : List Nat → Array Bool → Bool
  | [], listed => (Region.ready md ops listed).isEmpty
  | i :: is, listed => Region.ready md ops listed == [i] && tailOk2 md ops is (listed.setIfInBounds i true)
def opsAt (ops : Array Oper) (is : List Nat) : List Oper := is.filterMap fun i => ops[i]?
def planOk2 (md : Region.Mode) (ops : Array Oper) (hs ks ts : List Nat) : Bool :=
  Region.noSelect ops && hs.all (fun i => decide (i < ops.size)) && ks.all (fun i => decide (i < ops.size)) && ts.all (fun i => decide (i < ops.size)) && decide (hs.length + ks.length + ts.length = ops.size) &&
    ts.all (fun i => !ks.contains i) && headOk2 md ops (fun j => ks.contains j) hs (Array.replicate ops.size false) && tailOk2 md ops (ks ++ ts) (listBy hs (Array.replicate ops.size false))
def walkT (P : Program) (Q : Exit → Act → World → Prop) (S : World → Prop) (K : Act → World → Prop) : List Oper → Act → World → Prop
  | [], a, w => K a w
  | o :: os, a, w => o.guard = none ∧ o.wp P a w (fun a' w' => (S w → S w') ∧ walkT P Q S K os a' w') Q
theorem walkT_nil {K : Act → World → Prop} {a : Act} {w : World} (h : K a w) : walkT P Q S K [] a w := h
theorem walkT_cons {K : Act → World → Prop} {o : Oper} {os : List Oper} {a : Act} {w : World} (hg : o.guard = none)
    (h : ∀ K' : Act → World → Prop, (∀ a' w', (S w → S w') → walkT P Q S K os a' w' → K' a' w') → o.wp P a w K' Q) : walkT P Q S K (o :: os) a w :=
  ⟨hg, h _ fun _ _ h1 h2 => ⟨h1, h2⟩⟩
theorem heads_go2 (hsel : Region.noSelect ops = true) (hQ : ∀ (c : List PanicEntry) (a : Act) (d : Option Tmp) (v : Value) (w : World), Q (.panic c) (a.put d v) w → Q (.panic c) a w) {fuel : Nat} {w : World} (hS : S w) {K : Act → Prop} :
    ∀ (hs : List Nat) (listed : Array Bool) (a : Act), (∀ i ∈ hs, i < ops.size) → headOk2 md ops T hs listed = true → ClosedL md ops listed → stillS P ops S K (opsAt ops hs) a →
      (∀ a', K a' → ClosedL md ops (listBy hs listed) → wpAnyG P md ops Q S T fuel (listBy hs listed) a' w) → wpAnyG P md ops Q S T (hs.length + fuel) listed a w
  | [], listed, a, _, _, hc, hst, hK => by
    simp only [List.length_nil, Nat.zero_add]
    exact hK a hst hc
  | i :: hs, listed, a, hix, hok, hc, hst, hK => by
    simp only [headOk2, Bool.and_eq_true] at hok
    obtain ⟨⟨⟨hf, hr⟩, hp⟩, hok⟩ := hok
    obtain ⟨o, ho⟩ : ∃ o, ops[i]? = some o := ⟨_, Array.getElem?_eq_getElem (hix i (by simp))⟩
    have hoa : opsAt ops (i :: hs) = o :: opsAt ops hs := by unfold opsAt; rw [List.filterMap_cons, ho]
    rw [hoa] at hst
    obtain ⟨v, hy, hst⟩ := hst
    have hri : i ∈ Region.ready md ops listed := by simpa using hr
    have := wpAnyG_first (S := S) (T := T) (S' := fun w => pureOp o.op = false → S w) ho (Region.noSelect_spec hsel) (fun c a w => hQ c a o.dst v w) (hs.length + fuel) listed a w hc (Region.free_spec ho hf)
      (fun j hj hji hun hre w w' hT h hpf => by
        simp only [ho, Option.map_some, Option.getD_some, hpf, Bool.false_or, List.all_eq_true, List.mem_range, Bool.or_eq_true, beq_iff_eq] at hp
        rcases hp j hj with ((h1 | h1) | h1) | h1
        · exact absurd h1 hji
        · rw [hun] at h1; cases h1
        · rw [hre] at h1; cases h1
        · exact hT h1 (h hpf))
      hri hy (fun _ => hS)
      (heads_go2 hsel hQ hS hs (listed.setIfInBounds i true) (a.put o.dst v) (fun j hj => hix j (by simp [hj])) hok (hc.set hri) hst (fun a' ha' hc' => hK a' ha' hc'))
    rw [List.length_cons, Nat.add_right_comm]
    exact this
theorem tails_go2 : ∀ (ts : List Nat) (listed : Array Bool) (a : Act) (w : World), (∀ i ∈ ts, i < ops.size ∧ T i = false) → tailOk2 md ops ts listed = true → wpList P ops Q (opsAt ops ts) a w →
      wpAnyG P md ops Q S T ts.length listed a w
  | [], listed, a, w, _, hok, h => by
    simp only [tailOk2, List.isEmpty_iff] at hok
    exact ⟨hok, h⟩
  | i :: ts, listed, a, w, hix, hok, h => by
    simp only [tailOk2, Bool.and_eq_true, beq_iff_eq] at hok
    obtain ⟨hr, hok⟩ := hok
    obtain ⟨o, ho⟩ : ∃ o, ops[i]? = some o := ⟨_, Array.getElem?_eq_getElem (hix i (by simp)).1⟩
    have hoa : opsAt ops (i :: ts) = o :: opsAt ops ts := by unfold opsAt; rw [List.filterMap_cons, ho]
    rw [hoa] at h
    have hTi := (hix i (by simp)).2
    have ih : ∀ a' w', wpList P ops Q (opsAt ops ts) a' w' → wpAnyG P md ops Q S T ts.length (listed.setIfInBounds i true) a' w' := fun a' w' h' =>
      tails_go2 ts (listed.setIfInBounds i true) a' w' (fun j hj => hix j (by simp [hj])) hok h'
    refine ⟨fun h0 => (by rw [hr] at h0; cases h0), fun j hj => ?_⟩
    rw [hr] at hj
    obtain rfl : j = i := by simpa using hj
    unfold wpOp
    simp only [ho]
    simp only [wpList] at h
    split
    · rename_i hw
      simp only [hw, if_true] at h
      exact h.imp (fun h => Oper.wp_mono (fun a' w' h' => ⟨fun hT => absurd (hTi.symm.trans hT) (by decide), ih _ _ h'⟩) h) id
    · rename_i hw
      simp only [hw] at h
      exact ⟨fun _ hs => hs, ih _ _ h⟩
theorem keeps_go2 {K : Act → World → Prop} {fuel : Nat} {ts : List Nat} : ∀ (ks : List Nat) (listed : Array Bool) (a : Act) (w : World), (∀ i ∈ ks, i < ops.size) → tailOk2 md ops (ks ++ ts) listed = true → walkT P Q S K (opsAt ops ks) a w →
      (∀ a' w', K a' w' → tailOk2 md ops ts (listBy ks listed) = true → wpAnyG P md ops Q S T fuel (listBy ks listed) a' w') → wpAnyG P md ops Q S T (ks.length + fuel) listed a w
  | [], listed, a, w, _, hok, h, hK => by
    simp only [List.length_nil, Nat.zero_add]
    exact hK a w h hok
  | i :: ks, listed, a, w, hix, hok, h, hK => by
    simp only [List.cons_append, tailOk2, Bool.and_eq_true, beq_iff_eq] at hok
    obtain ⟨hr, hok⟩ := hok
    obtain ⟨o, ho⟩ : ∃ o, ops[i]? = some o := ⟨_, Array.getElem?_eq_getElem (hix i (by simp))⟩
    have hoa : opsAt ops (i :: ks) = o :: opsAt ops ks := by unfold opsAt; rw [List.filterMap_cons, ho]
    rw [hoa] at h
    obtain ⟨hg, h⟩ := h
    rw [List.length_cons, Nat.add_right_comm]
    refine ⟨fun h0 => (by rw [hr] at h0; cases h0), fun j hj => ?_⟩
    rw [hr] at hj
    obtain rfl : j = i := by simpa using hj
    unfold wpOp
    simp only [ho]
    rw [if_pos (by simp [Region.wanted, hg])]
    exact .inl (Oper.wp_mono (fun a' w' h' => ⟨fun _ => h'.1, keeps_go2 ks (listed.setIfInBounds j true) a' w' (fun k hk => hix k (by simp [hk])) hok h'.2 hK⟩) h)
theorem wp_region_plan2 {id : Nat} {a : Act} {w : World} {l : List Oper} (hs ks ts : List Nat) (S : World → Prop) (hm : P.follows .mixedOrders = true) (hB : planOk2 .any l.toArray hs ks ts = true)
    (hQ : ∀ (c : List PanicEntry) (a : Act) (d : Option Tmp) (v : Value) (w : World), Q (.panic c) (a.put d v) w → Q (.panic c) a w) (hS : S w.drew)
    (h : stillS P l.toArray S (fun a' => walkT P Q S (fun a'' w'' => wpList P l.toArray Q (opsAt l.toArray ts) a'' w'') (opsAt l.toArray ks) a' w.drew) (opsAt l.toArray hs) a) : (Code.region id l.toArray true).wp P Q a w := by
  simp only [planOk2, Bool.and_eq_true, decide_eq_true_eq] at hB
  obtain ⟨⟨⟨⟨⟨⟨⟨hsel, h1⟩, h2⟩, h3⟩, hlen⟩, h4⟩, hhead⟩, htail⟩ := hB
  simp only [List.all_eq_true, decide_eq_true_eq, Bool.not_eq_true'] at h1 h2 h3 h4
  have hcl : ClosedL .any l.toArray (Array.replicate l.toArray.size false) := fun j oj _ hl => by
    exfalso
    rcases Nat.lt_or_ge j l.toArray.size with h' | h' <;> simp_all
  refine wp_region_any hm (wpAny_of_G (S := S) (T := fun j => ks.contains j) _ _ _ _ ?_)
  have key := heads_go2 (T := fun j => ks.contains j) (md := .any) (ops := l.toArray) (P := P) (Q := Q) hsel hQ (fuel := ks.length + ts.length) (w := w.drew) hS hs (Array.replicate l.toArray.size false) a h1 hhead hcl h
    (fun a' ha' _ => keeps_go2 ks _ a' w.drew h2 htail ha' (fun a'' w'' h' ht => tails_go2 ts _ a'' w'' (fun i hi => ⟨h3 i hi, h4 i hi⟩) ht h'))
  rw [← Nat.add_assoc, hlen] at key
  exact key
end
end Go.Proofs.YtloplmaekonenaaGreatDoor
namespace Go.Proofs.YtloplmaekonenaaGreatDoor
set_option maxRecDepth 20000
open Go.RowKit
def readT : List UInt8 → Option (ByteArray × List UInt8)
  | [] => none
  | x :: t => if x.toNat ≤ t.length then some (str (t.take x.toNat), t.drop x.toNat) else none
def readAtts : Nat → List UInt8 → Option (List Att × List UInt8)
  | 0, bs => some ([], bs)
  | n + 1, bs => (readT bs).bind fun p => (readV p.2).bind fun q => (readAtts n q.2).map fun z => (⟨p.1, q.1⟩ :: z.1, z.2)
theorem readAtts_zero (bs : List UInt8) : readAtts 0 bs = some ([], bs) := rfl
theorem readAtts_succ (n : Nat) (bs : List UInt8) : readAtts (n + 1) bs = (readT bs).bind fun p => (readV p.2).bind fun q => (readAtts n q.2).map fun z => (⟨p.1, q.1⟩ :: z.1, z.2) := rfl
def readE (bs : List UInt8) : Option ((ByteArray × List Att) × List UInt8) :=
  (readT bs).bind fun p => match p.2 with
    | [] => none
    | n :: t => (readAtts n.toNat t).bind fun z => if evRight z.1 then some ((p.1, z.1), z.2) else none
theorem rd_text2 (w : World) (r G : Nat) (bs : List UInt8) (h : Rdr w r G bs) :
    Calls Tryz.prog 114 #[.pointer (some ⟨r, 0, none⟩)] w fun e w' =>
      (readT bs = none ∧ e = .panicked short ∧ Mod (fun k => k = r) w w') ∨ (∃ s t, readT bs = some (s, t) ∧ s.size ≤ 255 ∧ e = .returned (.string s) ∧ Rdr w' r G t ∧ Mod (fun k => k = r) w w') := by
  refine (rd_text w r G bs h).mono ?_
  rintro e w' (⟨h1, h2, h3⟩ | ⟨x, t, rfl, h1, h2, h3, h4⟩)
  · refine .inl ⟨?_, h2, h3⟩
    cases bs with
    | nil => rfl
    | cons x t =>
      have hlt := h1 x t rfl
      show (if x.toNat ≤ t.length then some (str (t.take x.toNat), t.drop x.toNat) else none) = none
      exact if_neg (by omega)
  · refine .inr ⟨_, _, ?_, ?_, h2, h3, h4⟩
    · exact if_pos h1
    · show (str (t.take x.toNat)).data.size ≤ 255
      have := x.toNat_lt
      simp only [str, List.size_toArray, List.length_take]
      omega
theorem attrs_T : SliceT Tryz.prog 30 90 6 64 := sliceT (by kernel_rfl) (by kernel_rfl)
def Went (l : List Att) (t bs : List UInt8) (k : Nat) : Prop := ∀ m, readAtts (k + m) bs = (readAtts m t).map fun z => (l ++ z.1, z.2)
theorem Went.start (bs : List UInt8) : Went [] bs bs 0 := fun m => by rw [Nat.zero_add]; cases readAtts m bs <;> simp
theorem Went.next {l : List Att} {t bs : List UInt8} {k : Nat} (h : Went l t bs k) {s : ByteArray} {t1 t2 : List UInt8} {v : V} (h1 : readT t = some (s, t1)) (h2 : readV t1 = some (v, t2)) : Went (l ++ [⟨s, v⟩]) t2 bs (k + 1) := fun m => by
  rw [Nat.add_assoc, h (1 + m), Nat.add_comm 1 m, readAtts_succ, h1]
  simp only [Option.bind_some, h2]
  cases readAtts m t2 <;> simp
theorem Went.none {l : List Att} {t bs : List UInt8} {k n : Nat} (h : Went l t bs k) (hk : k < n) (hr : ∀ m, readAtts (m + 1) t = none) : readAtts n bs = none := by
  have := h (n - k - 1 + 1)
  rw [hr, show k + (n - k - 1 + 1) = n by omega] at this
  simpa using this
theorem Went.done {l : List Att} {t bs : List UInt8} {k : Nat} (h : Went l t bs k) : readAtts k bs = some (l, t) := by
  have := h 0
  rw [Nat.add_zero, readAtts_zero] at this
  simpa using this
theorem atts_snoc (l : List Att) (a : Att) : atts (l ++ [a]) = atts l ++ a.cells := by unfold atts; simp
set_option maxRecDepth 20000 in
set_option maxHeartbeats 2000000 in
theorem rd_event (w : World) (r G : Nat) (bs : List UInt8) (h : Rdr w r G bs) (hG : G < w.heap.size) :
    Calls Tryz.prog 115 #[.pointer (some ⟨r, 0, none⟩)] w fun e w' =>
      (readE bs = none ∧ e = .panicked short ∧ Mod (fun k => k = r) w w') ∨
      (∃ sc l t av, readE bs = some ((sc, l), t) ∧ sc.size ≤ 255 ∧ e = .returned (.agg #[.string sc, av]) ∧ OwnSl w' 90 6 av l.length (atts l) ∧ (∀ b, av.ownBlock = some b → w.heap.size ≤ b) ∧ Rdr w' r G t ∧ Mod (fun k => k = r) w w') := by
  have hrl := h.lt
  obtain ⟨wa, hwa⟩ : ∃ wa : World, wa = w.alloc (.cells #[.string ⟨#[]⟩, .slice none 0 0] 32) := ⟨_, rfl⟩
  have hma : Mod (fun _ => False) w wa := hwa ▸ (Mod.refl (fun _ => False) w).alloc _
  have hga : wa.heap[w.heap.size]? = some (.cells #[.string ⟨#[]⟩, .slice none 0 0] 32 (0, 0)) := hwa ▸ heap_alloc_new w _
  have hra := h.new hma hrl hG (by simp)
  have Hb := Lib.hid (rd_text2 wa r G bs hra)
  have Hma := Lib.hid hma
  have Hga := Lib.hid hga
  have Hwa := Lib.hid hwa
  clear h hma hra hga
  go_enter Tryz.func115, Tryz.ntmps115
  go_wp2_with fail
  rw [← Hwa.out]
  clear hwa
  refine Hb.out.mono ?_
  rintro e w1 (⟨h1, rfl, hm1⟩ | ⟨sc, t, h1, hsc, rfl, hr1, hm1⟩)
  · exact ⟨rfl, .inl ⟨by unfold readE; rw [h1]; rfl, rfl, (Hma.out.mono (by simp)).trans hm1 (fun _ _ h => h)⟩⟩
  have hm01 : Mod (fun k => k = r) w w1 := (Hma.out.mono (by simp)).trans hm1 (fun _ _ h => h)
  have hg1 := hm1.heap Hga.out (by omega)
  have hl1 : w.heap.size < w1.heap.size := (Array.getElem?_eq_some_iff.1 hg1).1
  obtain ⟨wb, hwb⟩ : ∃ wb : World, wb = w1.alloc (.cells #[.string sc, .slice none 0 0] 32) := ⟨_, rfl⟩
  have hmb : Mod (fun _ => False) w1 wb := hwb ▸ (Mod.refl (fun _ => False) w1).alloc _
  have hgb : wb.heap[w1.heap.size]? = some (.cells #[.string sc, .slice none 0 0] 32 (0, 0)) := hwb ▸ heap_alloc_new w1 _
  have hgb2 := hmb.heap hg1 (by simp)
  have hrb := hr1.new hmb (B := w.heap.size) hrl hG (by simp)
  have hm0b : Mod (fun k => k = r) w wb := hm01.trans (hmb.mono (by simp)) (fun _ _ h => h)
  have Hb2 := Lib.hid (rd_byte wb r G t hrb)
  have H1 := Lib.hid h1
  have Hm0b := Lib.hid hm0b
  have Hgb := Lib.hid hgb
  have Hgb2 := Lib.hid hgb2
  have Hwb := Lib.hid hwb
  have Hsc := Lib.hid hsc
  clear h1 hr1 hm1 hm01 hg1 hmb hgb hgb2 hrb hm0b Hb Hma Hga Hwa hsc
  go_wp2_with (first | (refine wpList_store_new rfl 32 (.tmp 3) (.tmp 6) rfl rfl _ 32 [.string sc, .slice none 0 0] rfl rfl (by kernel_rfl) (fun u hu => List.all_eq_true.1 rfl u hu) ?_) | fail)
  rw [← Hwb.out]
  clear hwb Hwb
  refine Hb2.out.mono ?_
  rintro e w2 (⟨rfl, rfl, rfl⟩ | ⟨n, t0, rfl, rfl, hr2, hm2⟩)
  · exact ⟨rfl, .inl ⟨by unfold readE; rw [H1.out]; rfl, rfl, Hm0b.out⟩⟩
  have hm02 : Mod (fun k => k = r) w w2 := Hm0b.out.trans hm2 (fun _ _ h => h)
  have hg3 := hm2.heap Hgb.out (by omega)
  have hg2 := hm2.heap Hgb2.out (by omega)
  have hl2 : w1.heap.size < w2.heap.size := (Array.getElem?_eq_some_iff.1 hg3).1
  have hn := n.toNat_lt
  have hn' : (n.toNat : Int) ≤ 255 := by omega
  have Hr2 := Lib.hid hr2
  have Hm02 := Lib.hid hm02
  have Hg3 := Lib.hid hg3
  have Hg2 := Lib.hid hg2
  obtain ⟨N, hN⟩ : ∃ N, n.toNat = N := ⟨_, rfl⟩
  have HN := Lib.hid hN
  rw [hN] at hn hn' ⊢
  clear hm2 hr2 hm02 hg3 hg2 Hb2 Hm0b Hgb Hgb2 hN
  go_wp2_with fail
  go_loopw [9] (fun i wr => ∃ k : Nat, ∃ l t av, k ≤ N ∧ i = .int .i64 k ∧ l.length = k ∧ Went l t t0 k ∧ (∀ x ∈ l, x.name.size ≤ 255) ∧ Rdr wr r G t ∧ wr.heap[w1.heap.size]? = some (.cells #[.string sc, av] 32 (0, 0)) ∧
      OwnSl wr 90 6 av l.length (atts l) ∧ (∀ b, av.ownBlock = some b → w2.heap.size ≤ b) ∧ Mod (fun k => k = r ∨ k = w1.heap.size) w2 wr) (fun i _ => N - (intOf i).toNat)
  case atStart => exact ⟨0, [], t0, .slice none 0 0, Nat.zero_le _, rfl, rfl, Went.start _, by simp, Hr2.out, Hg3.out, OwnSl.nil _ _ _, (fun b hb => by cases hb), Mod.refl _ _⟩
  case round =>
    obtain ⟨k, l, t, av, hkN, rfl, hlk, hwent, hnames, hrr, hgr, hown, hfresh, hmr⟩ := hrel
    have Hwent := Lib.hid hwent
    have Hnames := Lib.hid hnames
    have Hrr := Lib.hid hrr
    have Hgr := Lib.hid hgr
    have Hown := Lib.hid hown
    have Hfresh := Lib.hid hfresh
    have Hmr := Lib.hid hmr
    have Hlk := Lib.hid hlk
    have hlr : w2.heap.size ≤ wr.heap.size := hmr.size
    clear hwent hnames hrr hgr hown hfresh hmr hlk
    by_cases hlt : k < N
    · have hlt' : (k : Int) < N := by omega
      have c1 : wr.cell? ⟨w1.heap.size, 1, none⟩ = some av := cell_of Hgr.out rfl
      go_wp2_with fail
      refine wp_region_plan2 [0, 2, 4, 1] [3, 5, 6, 7] [8, 9, 10] (fun x => x.cell? ⟨w1.heap.size, 1, none⟩ = some av) (by kernel_rfl) (by kernel_rfl) (fun _ _ d _ _ h => (by cases d <;> exact h)) c1 ?_
      simp only [opsAt, List.filterMap_cons, List.filterMap_nil, List.getElem?_toArray, List.getElem?_cons_succ, List.getElem?_cons_zero]
      refine stillS_cons (v := ?_) rfl (fun w0 h0 => ?_) ?_
      rotate_left
      · go_simp; with_reducible rfl
      simp only [Act.put, List.setIfInBounds_toArray, List.set_cons_zero, List.set_cons_succ]
      refine stillS_cons (v := ?_) rfl (fun w0 h0 => ?_) ?_
      rotate_left
      · go_simp; with_reducible rfl
      simp only [Act.put, List.setIfInBounds_toArray, List.set_cons_zero, List.set_cons_succ]
      refine stillS_cons (v := ?_) rfl (fun w0 h0 => ?_) ?_
      rotate_left
      · go_simp; with_reducible rfl
      simp only [Act.put, List.setIfInBounds_toArray, List.set_cons_zero, List.set_cons_succ]
      refine stillS_cons (v := ?_) rfl (fun w0 h0 => ?_) ?_
      rotate_left
      · have h1 := h0 rfl; clear h0; go_simp; with_reducible rfl
      simp only [Act.put, List.setIfInBounds_toArray, List.set_cons_zero, List.set_cons_succ]
      refine stillS_nil ?_
      have hrd : Rdr wr.drew r G t := Hrr.out.new (Mod.refl (fun _ => False) wr).drew (B := w.heap.size) hrl hG (fun _ h => h.elim)
      have Ht := Lib.hid (rd_text2 wr.drew r G t hrd)
      clear hrd
      refine walkT_cons rfl (fun K' hK' => ?_)
      go_wp2_with fail
      refine Ht.out.mono ?_
      rintro e w3 (⟨h1, rfl, hm3⟩ | ⟨s, t1, h1, hs, rfl, hr3, hm3⟩)
      · refine ⟨rfl, .inl ⟨?_, rfl, ?_⟩⟩
        · unfold readE
          rw [H1.out]
          show ((readAtts n.toNat t0).bind _) = none
          rw [HN.out, Hwent.out.none hlt (fun m => by rw [readAtts_succ, h1]; rfl)]
          rfl
        · exact (Hm02.out.on Hmr.out (fun b hb => by omega)).on ((Mod.refl _ wr).drew.trans hm3 (fun _ _ h => h)) (fun b hb => .inl hb)
      have hm3' : Mod (fun k => k = r) wr w3 := (Mod.refl _ wr).drew.trans hm3 (fun _ _ h => h)
      have hg3 := hm3'.heap Hgr.out (by omega)
      have c3 : w3.cell? ⟨w1.heap.size, 1, none⟩ = some av := cell_of hg3 rfl
      refine hK' _ _ (fun _ => c3) ?_
      refine walkT_cons rfl (fun K'' hK'' => ?_)
      have Hv := Lib.hid (rd_value w3 r G t1 hr3 (by have := hm3'.size; omega))
      have Hs := Lib.hid hs
      have Hm3 := Lib.hid hm3'
      have Hg3' := Lib.hid hg3
      have Hh1 := Lib.hid h1
      clear hm3 hm3' hr3 hg3 h1 hK' Ht hs
      go_wp2_with fail
      refine Hv.out.mono ?_
      rintro e w4 (⟨h2, rfl, hm4⟩ | ⟨v, t2, h2, rfl, hr4, hm4⟩)
      · refine ⟨rfl, .inl ⟨?_, rfl, ?_⟩⟩
        · unfold readE
          rw [H1.out]
          show ((readAtts n.toNat t0).bind _) = none
          rw [HN.out, Hwent.out.none hlt (fun m => by rw [readAtts_succ, Hh1.out]; show (readV t1).bind _ = none; rw [h2]; rfl)]
          rfl
        · exact ((Hm02.out.on Hmr.out (fun b hb => by omega)).on Hm3.out (fun b hb => .inl hb)).on hm4 (fun b hb => .inl hb)
      have hg4 := hm4.heap Hg3'.out (by omega)
      have c4 : w4.cell? ⟨w1.heap.size, 1, none⟩ = some av := cell_of hg4 rfl
      have f4 : w4.frozen? ⟨w1.heap.size, 1, none⟩ = false := fr_of hg4
      refine hK'' _ _ (fun _ => c4) ?_
      obtain ⟨kind, int, num, text, yes⟩ := v
      unfold V.cells
      refine walkT_cons rfl (fun K3 hK3 => ?_)
      go_simp
      refine hK3 _ _ (fun _ => c4) ?_
      clear hK3 K3
      refine walkT_cons rfl (fun K3 hK3 => ?_)
      go_simp
      refine hK3 _ _ (fun _ => cell_new c4 _) ?_
      clear hK3 K3
      refine walkT_nil ?_
      have hown4 := (Hown.out.mod Hm3.out (fun b hb => by have := Hfresh.out b hb; omega)).mod hm4 (fun b hb => by have := Hfresh.out b hb; omega)
      have Hown4 := Lib.hid hown4
      have Hm4 := Lib.hid hm4
      have Hg4 := Lib.hid hg4
      have Hr4 := Lib.hid hr4
      have Hh2 := Lib.hid h2
      clear hown4 hm4 hg4 hr4 h2 hK'' Hv c1 c3
      have hlen : l.length ≤ 255 := by have := Hlk.out; omega
      have hne3 : ∀ b, inBlock av b → b ≠ w1.heap.size := fun b hb => by have := Hfresh.out b hb; omega
      have hone : ∀ u ∈ Att.cells ⟨s, kind, int, num, text, yes⟩, u.oneCell' = true := fun u hu => List.all_eq_true.1 (show (Att.cells ⟨s, kind, int, num, text, yes⟩).all (·.oneCell') = true from rfl) u hu
      have Hlen := Lib.hid hlen
      have Hne3 := Lib.hid hne3
      have Hone := Lib.hid hone
      clear hlen hne3 hone
      refine wpList_append_sl rfl (.tmp 12) (.tmp 18) 30 rfl 90 6 64 attrs_T av l.length (atts l) rfl (Hown4.out.alloc _) _ 1 (Att.cells ⟨s, kind, int, num, text, yes⟩) rfl (RdSl.one w4 (Att.cells ⟨s, kind, int, num, text, yes⟩) 90 rfl) Hone.out (by have := Hlen.out; omega) (by have := Hlen.out; unfold maxLen; omega) ?_
      intro ad cap w5 hA
      have hb5 := hA.2.1.heap (k := w1.heap.size) (heap_old Hg4.out) (fun h => Hne3.out _ h rfl)
      have k5 : w5.cell? ⟨w1.heap.size, 1, none⟩ = some av := cell_of hb5 rfl
      have f5 : w5.frozen? ⟨w1.heap.size, 1, none⟩ = false := fr_of hb5
      have HAp := Lib.hid hA
      have Hb5 := Lib.hid hb5
      clear hA hb5 c4 f4
      go_wp2_with fail
      go_roundw
      case rel =>
        have hsl := HAp.out.2.2
        have hal : Mod (fun _ => False) w4 (w4.alloc (.cells (Att.cells ⟨s, kind, int, num, text, yes⟩).toArray 90)) := (Mod.refl _ w4).alloc _
        have hm6 : Mod (fun k => k = w1.heap.size) w5 (w5.setCell ⟨w1.heap.size, 1, none⟩ (.slice ad (l.length + 1) cap)) := (Mod.refl (fun k => k = w1.heap.size) w5).setCell (fun _ => rfl) _
        have hl3 := Hm3.out.size
        have hl4 := Hm4.out.size
        have hnb : ∀ b, (Value.slice ad (l.length + 1) cap).ownBlock = some b → w2.heap.size ≤ b := fun b hb => by
          rcases hsl with h | ⟨q, h, hq⟩
          · exact Hfresh.out b (h.symm.trans hb)
          · rw [h] at hb
            cases hb
            have : (w4.alloc (.cells (Att.cells ⟨s, kind, int, num, text, yes⟩).toArray 90)).heap.size = w4.heap.size + 1 := by simp
            have hq' : w4.heap.size + 1 ≤ b := this ▸ hq
            omega
        refine ⟨k + 1, l ++ [⟨s, kind, int, num, text, yes⟩], t2, .slice ad (l.length + 1) cap, hlt, by go_num, by rw [List.length_append, Hlk.out]; rfl, Hwent.out.next Hh1.out Hh2.out, ?_, ?_, heap_set Hb5.out, ?_, hnb, ?_⟩
        · intro x hx
          rcases List.mem_append.1 hx with hx | hx
          · exact Hnames.out x hx
          · obtain rfl := List.mem_singleton.1 hx
            exact Hs.out
        · have h1 := Hr4.out.new hal (B := w.heap.size) hrl hG (fun _ h => h.elim)
          have h2 := h1.new HAp.out.2.1 (B := w.heap.size) hrl hG (fun b hb => by have := Hfresh.out b hb; omega)
          exact h2.new hm6 (B := w.heap.size) hrl hG (fun b hb => by omega)
        · rw [List.length_append, atts_snoc]
          exact HAp.out.1.setCell (fun hb => by have := hnb _ hb; simp at this; omega) _
        · exact ((((Hmr.out.on Hm3.out (fun b hb => .inl (.inl hb))).on Hm4.out (fun b hb => .inl (.inl hb))).on hal (fun b hb => hb.elim)).on HAp.out.2.1 (fun b hb => .inr (Hfresh.out b hb))).on hm6 (fun b hb => .inl (.inr hb))
      case measure => simp [intOf]; omega
    · obtain rfl : k = N := by omega
      obtain ⟨ava, avc, rfl, -⟩ := Hown.out.shape
      have hmw : Mod (fun k => k = r) w wr := Hm02.out.on Hmr.out (fun b hb => by omega)
      have hev := right_at sc (.slice ava l.length avc) l wr Hown.out.rd (by have := Hlk.out; omega) (fun x hx => by have := Hnames.out x hx; omega)
      have hgt := Hmr.out.heap Hg2.out (by omega)
      have hre : readE bs = if evRight l then some ((sc, l), t) else none := by
        unfold readE
        rw [H1.out]
        show ((readAtts n.toNat t0).bind _) = _
        rw [HN.out, Hwent.out.done]
        rfl
      have Hmw := Lib.hid hmw
      have Hev := Lib.hid hev
      have Hgt := Lib.hid hgt
      have Hre := Lib.hid hre
      clear hmw hev hgt hre
      go_wp2_with (first | (refine wpList_load_cells rfl 32 (.tmp 3) rfl w1.heap.size 0 rfl [.string sc, .slice ava l.length avc] (CellsAt.row Hgr.out) (by kernel_rfl) (by kernel_rfl) ?_) | fail)
      refine Hev.out.mono ?_
      rintro e w6 ⟨rfl, hm6⟩
      have hg36 := hm6.heap Hgr.out (by simp)
      have hg26 := hm6.heap Hgt.out (by simp)
      have HM6 := Lib.hid hm6
      have Hg36 := Lib.hid hg36
      have Hg26 := Lib.hid hg26
      clear hm6 hg36 hg26
      cases hE : evRight l with
      | false =>
        have hre := Hre.out
        rw [hE] at hre
        go_wp2
        exact ⟨rfl, .inl ⟨hre, rfl, Hmw.out.on HM6.out (fun _ h => h.elim)⟩⟩
      | true =>
        have hre := Hre.out
        rw [hE, if_pos rfl] at hre
        have HRE := Lib.hid hre
        clear hre
        go_wp2_with (first | (refine wpList_load_cells rfl 32 (.tmp 3) rfl w1.heap.size 0 rfl [.string sc, .slice ava l.length avc] (CellsAt.row Hg36.out) (by kernel_rfl) (by kernel_rfl) ?_) | (refine wpList_store_row rfl 32 (.tmp 2) (.tmp 27) rfl w.heap.size rfl _ 32 Hg26.out [.string sc, .slice ava l.length avc] rfl 2 rfl rfl (by kernel_rfl) rfl ?_; intro w7 h7 hm7; have H7 := Lib.hid h7; have Hm7 := Lib.hid hm7; clear h7 hm7) | fail)
        refine bodyPost_cell rfl w.heap.size rfl _ (CellsAt.row H7.out) (by kernel_rfl) (by kernel_rfl) rfl (.inr ⟨sc, l, t, .slice ava l.length avc, HRE.out, Hsc.out, rfl, ?_, ?_, ?_, ?_⟩)
        · exact (Hown.out.mod HM6.out (fun _ _ h => h.elim)).mod Hm7.out (fun b hb => by have := Hfresh.out b hb; omega)
        · exact fun b hb => by have := Hfresh.out b hb; omega
        · exact (Hrr.out.new HM6.out (B := w.heap.size) hrl hG (fun _ h => h.elim)).new Hm7.out (B := w.heap.size) hrl hG (fun b hb => by omega)
        · exact (Hmw.out.on HM6.out (fun _ h => h.elim)).on Hm7.out (fun b hb => .inr (by omega))
end Go.Proofs.YtloplmaekonenaaGreatDoor
