/-
  The script of a region that draws its order, over a relation in place of a predicate: whatever of T runs makes new memory only; what is read may be read at whatever place in the script, by what is known there.
  value.Compare.
  cond.Holds.
-/
import Derived.Test.YtloplmaekonenaaGreatDoorZf10
import Derived.Test.YtloplmaekonenaaGreatDoorZf1
import Derived.Test.YtloplmaekonenaaGreatDoorZf18
import Derived.Deep.QuietTactic
import Derived.BigQuiet
namespace Go.Proofs.YtloplmaekonenaaGreatDoor
set_option maxRecDepth 20000
open Go.RowKit

section
variable {P : Program} {ops : Array Oper} {Q : Exit → Act → World → Prop} {md : Region.Mode} {T : Nat → Bool}

/-- Whatever order is picked from here on; behind each operation of T there is new memory only. -/
def wpAnyR (P : Program) (md : Region.Mode) (ops : Array Oper) (Q : Exit → Act → World → Prop) (T : Nat → Bool) : Nat → Array Bool → Act → World → Prop
  | 0, listed, a, w => Region.ready md ops listed = [] ∧ Q .normal a w
  | fuel + 1, listed, a, w =>
    (Region.ready md ops listed = [] → Q .normal a w) ∧
    ∀ i ∈ Region.ready md ops listed, wpOp P ops Q i (fun a' w' => (T i = true → Mod (fun _ => False) w w') ∧ wpAnyR P md ops Q T fuel (listed.setIfInBounds i true) a' w') a w
theorem wpAny_of_R : ∀ (fuel : Nat) (listed : Array Bool) (a : Act) (w : World), wpAnyR P md ops Q T fuel listed a w → wpAny P md ops Q fuel listed a w
  | 0, _, _, _, h => h
  | fuel + 1, _, _, _, h => ⟨h.1, fun i hi => wpOp_mono (fun a' w' h' => wpAny_of_R fuel _ a' w' h'.2) (h.2 i hi)⟩

theorem wpAnyR_first {S' : World → Prop} {i : Nat} {oi : Oper} {v : Value} (hi : ops[i]? = some oi) (hsel : ∀ (j : Nat) (o : Oper) cs b, ops[j]? = some o → o.op ≠ .select cs b)
    (hQ : ∀ c a w, Q (.panic c) (a.put oi.dst v) w → Q (.panic c) a w) :
    ∀ (fuel : Nat) (listed : Array Bool) (a : Act) (w : World), ClosedL md ops listed →
      (∀ j oj, ops[j]? = some oj → j ≠ i → listed.getD j true = false → (∀ e ∈ oj.after, Region.binds md e = true → e.on ≠ i) → oi.apart ops oj = true) →
      (∀ j, j < ops.size → j ≠ i → listed.getD j true = false → reachB md ops ops.size j i = false → ∀ w w', (T j = true → Mod (fun _ => False) w w') → S' w → S' w') →
      i ∈ Region.ready md ops listed → YieldsIf P ops S' oi v a → S' w →
      wpAnyR P md ops Q T fuel (listed.setIfInBounds i true) (a.put oi.dst v) w → wpAnyR P md ops Q T (fuel + 1) listed a w := by
  intro fuel
  induction fuel with
  | zero =>
    intro listed a w hc _ _ hr hy hS' H
    refine ⟨fun h => (by rw [h] at hr; cases hr), fun j hj => ?_⟩
    by_cases hji : j = i
    · subst hji; exact hy.wpOp hi hS' ⟨fun _ => Mod.refl _ _, H⟩
    · have := ready_mono hj hji
      rw [H.1] at this
      cases this
  | succ fuel ih =>
    intro listed a w hc hfree hT hr hy hS' H
    refine ⟨fun h => (by rw [h] at hr; cases hr), fun j hj => ?_⟩
    by_cases hji : j = i
    · subst hji; exact hy.wpOp hi hS' ⟨fun _ => Mod.refl _ _, H⟩
    · have h1 := H.2 j (ready_mono hj hji)
      obtain ⟨hjun, oj, hoj, hall⟩ := mem_ready.1 hj
      have hiun : listed.getD i false = false := by
        have h0 := (mem_ready.1 hr).1
        rcases Nat.lt_or_ge i listed.size with h' | h'
        · simp [h'] at h0 ⊢; exact h0
        · simp [Array.getElem?_eq_none h'] at h0
      have hnot : ∀ e ∈ oj.after, Region.binds md e = true → e.on ≠ i := fun e he hb heq => by
        have h1 := hall e he hb
        rw [heq, hiun] at h1
        cases h1
      have hreach : reachB md ops ops.size j i = false := by
        cases hb : reachB md ops ops.size j i with
        | false => rfl
        | true => have := reach_ready hc hj hb; rw [hiun] at this; cases this
      have h2 := wpOp_putIf hoj (hfree j oj hoj hji hjun hnot) (fun cs b => hsel i oi cs b hi) (fun cs b => hsel j oj cs b hoj) hQ hy h1
      have hfree' : ∀ k ok, ops[k]? = some ok → k ≠ i → (listed.setIfInBounds j true).getD k true = false →
          (∀ e ∈ ok.after, Region.binds md e = true → e.on ≠ i) → oi.apart ops ok = true := fun k ok hk hki hun hno => by
        refine hfree k ok hk hki ?_ hno
        by_cases hjk : j = k
        · subst hjk; exact hjun
        · rw [getD_set_ne true hjk] at hun; exact hun
      have hT' : ∀ k, k < ops.size → k ≠ i → (listed.setIfInBounds j true).getD k true = false → reachB md ops ops.size k i = false → ∀ w w', (T k = true → Mod (fun _ => False) w w') → S' w → S' w' := fun k hks hki hun hno => by
        refine hT k hks hki ?_ hno
        by_cases hjk : j = k
        · subst hjk; exact hjun
        · rw [getD_set_ne true hjk] at hun; exact hun
      have hSj := hT j (Array.getElem?_eq_some_iff.1 hoj).1 hji hjun hreach
      refine wpOp_mono (fun a' w' h3 => ?_) h2
      obtain ⟨hy3, hTS, H3⟩ := h3
      exact ⟨hTS, ih (listed.setIfInBounds j true) a' w' (hc.set hj) hfree' hT' (ready_mono hr (Ne.symm hji)) hy3 (hSj w w' hTS hS') (by rw [Array.setIfInBounds_comm _ _ hji]; exact H3)⟩


/-- One operation. -/
def goR (P : Program) (ops : Array Oper) (Q : Exit → Act → World → Prop) (T : Nat → Bool) (i : Nat) (K : Act → World → Prop) (a : Act) (w : World) : Prop :=
  wpOp P ops Q i (fun a' w' => (T i = true → Mod (fun _ => False) w w') ∧ K a' w') a w

def walkR (P : Program) (ops : Array Oper) (Q : Exit → Act → World → Prop) (T : Nat → Bool) : List Stp → Act → World → Prop
  | [], a, w => Q .normal a w
  | .rd i :: r, a, w => ∀ o, ops[i]? = some o → ∃ S : World → Prop, (∀ w w', Mod (fun _ => False) w w' → S w → S w') ∧ (pureOp o.op = false → S w) ∧ ∃ v, YieldsIf P ops (fun w => pureOp o.op = false → S w) o v a ∧ walkR P ops Q T r (a.put o.dst v) w
  | .go i :: r, a, w => goR P ops Q T i (fun a' w' => walkR P ops Q T r a' w') a w
  | .both i j :: r, a, w => goR P ops Q T i (goR P ops Q T j (fun a' w' => walkR P ops Q T r a' w')) a w ∧ goR P ops Q T j (goR P ops Q T i (fun a' w' => walkR P ops Q T r a' w')) a w

theorem goR_mono {i : Nat} {K K' : Act → World → Prop} {a : Act} {w : World} (h : ∀ a w, K a w → K' a w) (hh : goR P ops Q T i K a w) : goR P ops Q T i K' a w :=
  wpOp_mono (fun a' w' h' => ⟨h'.1, h a' w' h'.2⟩) hh

theorem walkR_all (hsel : Region.noSelect ops = true) (hQ : ∀ (c : List PanicEntry) (a : Act) (d : Option Tmp) (v : Value) (w : World), Q (.panic c) (a.put d v) w → Q (.panic c) a w) :
    ∀ (r : List Stp) (listed : Array Bool) (a : Act) (w : World), scriptOk md ops T r listed = true → ClosedL md ops listed → walkR P ops Q T r a w → wpAnyR P md ops Q T (count r) listed a w
  | [], listed, a, w, hok, _, h => by
    simp only [scriptOk, List.isEmpty_iff] at hok
    exact ⟨hok, h⟩
  | .rd i :: r, listed, a, w, hok, hc, h => by
    simp only [scriptOk, Bool.and_eq_true, decide_eq_true_eq] at hok
    obtain ⟨⟨⟨⟨hi, hf⟩, hr⟩, hp⟩, hok⟩ := hok
    obtain ⟨o, ho⟩ : ∃ o, ops[i]? = some o := ⟨_, Array.getElem?_eq_getElem hi⟩
    obtain ⟨S, hstab, hSw, v, hy, h⟩ := h o ho
    have hri : i ∈ Region.ready md ops listed := by simpa using hr
    exact wpAnyR_first (T := T) (S' := fun w => pureOp o.op = false → S w) ho (Region.noSelect_spec hsel) (fun c a w => hQ c a o.dst v w) (count r) listed a w hc (Region.free_spec ho hf)
      (fun j hj hji hun hre w w' hT h hpf => by
        simp only [ho, Option.map_some, Option.getD_some, hpf, Bool.false_or, List.all_eq_true, List.mem_range, Bool.or_eq_true, beq_iff_eq] at hp
        rcases hp j hj with ((h1 | h1) | h1) | h1
        · exact absurd h1 hji
        · rw [hun] at h1; cases h1
        · rw [hre] at h1; cases h1
        · exact hstab _ _ (hT h1) (h hpf))
      hri hy hSw (walkR_all hsel hQ r (listed.setIfInBounds i true) (a.put o.dst v) w hok (hc.set hri) h)
  | .go i :: r, listed, a, w, hok, hc, h => by
    simp only [scriptOk, Bool.and_eq_true, beq_iff_eq] at hok
    obtain ⟨hr, hok⟩ := hok
    have hri : i ∈ Region.ready md ops listed := by rw [hr]; simp
    refine ⟨fun h0 => (by rw [hr] at h0; cases h0), fun j hj => ?_⟩
    rw [hr] at hj
    obtain rfl : j = i := by simpa using hj
    have h : goR P ops Q T j (fun a' w' => walkR P ops Q T r a' w') a w := h
    exact wpOp_mono (fun a' w' h' => ⟨h'.1, walkR_all hsel hQ r _ a' w' hok (hc.set hri) h'.2⟩) h
  | .both i j :: r, listed, a, w, hok, hc, h => by
    simp only [scriptOk, Bool.and_eq_true, beq_iff_eq, decide_eq_true_eq] at hok
    obtain ⟨⟨⟨⟨hij, hr⟩, hr1⟩, hr2⟩, hok⟩ := hok
    have hri : i ∈ Region.ready md ops listed := by rw [hr]; simp
    have hrj : j ∈ Region.ready md ops listed := by rw [hr]; simp
    have hrj2 : j ∈ Region.ready md ops (listed.setIfInBounds i true) := by rw [hr1]; simp
    refine ⟨fun h0 => (by rw [hr] at h0; cases h0), fun k hk => ?_⟩
    rw [hr] at hk
    have hk' : k = i ∨ k = j := by simpa using hk
    have hA : goR P ops Q T i (goR P ops Q T j (fun a' w' => walkR P ops Q T r a' w')) a w := h.1
    have hB : goR P ops Q T j (goR P ops Q T i (fun a' w' => walkR P ops Q T r a' w')) a w := h.2
    rcases hk' with rfl | rfl
    · refine wpOp_mono (fun a' w' h' => ⟨h'.1, ?_⟩) hA
      refine ⟨fun h0 => (by rw [hr1] at h0; cases h0), fun k' hk' => ?_⟩
      rw [hr1] at hk'
      obtain rfl : k' = j := by simpa using hk'
      exact wpOp_mono (fun a' w' h' => ⟨h'.1, walkR_all hsel hQ r _ a' w' hok ((hc.set hri).set hrj2) h'.2⟩) h'.2
    · refine wpOp_mono (fun a' w' h' => ⟨h'.1, ?_⟩) hB
      refine ⟨fun h0 => (by rw [hr2] at h0; cases h0), fun k' hk' => ?_⟩
      rw [hr2] at hk'
      obtain rfl : k' = i := by simpa using hk'
      rw [Array.setIfInBounds_comm _ _ hij.symm]
      exact wpOp_mono (fun a' w' h' => ⟨h'.1, walkR_all hsel hQ r _ a' w' hok ((hc.set hri).set hrj2) h'.2⟩) h'.2


/-- Behind a structure, so that nothing unfolds it. -/
structure WR (P : Program) (ops : Array Oper) (Q : Exit → Act → World → Prop) (T : Nat → Bool) (r : List Stp) (a : Act) (w : World) : Prop where
  out : walkR P ops Q T r a w
structure GR (P : Program) (ops : Array Oper) (Q : Exit → Act → World → Prop) (T : Nat → Bool) (i : Nat) (K : Act → World → Prop) (a : Act) (w : World) : Prop where
  out : goR P ops Q T i K a w

/-- THE LAW. -/
theorem wp_region_news2 {id : Nat} {a : Act} {w : World} {l : List Oper} (r : List Stp) (ks : List Nat) (hm : P.follows .mixedOrders = true)
    (hB : (Region.noSelect l.toArray && (decide (count r = l.length) && scriptOk .any l.toArray (fun j => ks.contains j) r (Array.replicate l.toArray.size false))) = true)
    (hQ : ∀ (c : List PanicEntry) (a : Act) (d : Option Tmp) (v : Value) (w : World), Q (.panic c) (a.put d v) w → Q (.panic c) a w)
    (h : WR P l.toArray Q (fun j => ks.contains j) r a w.drew) : (Code.region id l.toArray true).wp P Q a w := by
  simp only [Bool.and_eq_true, decide_eq_true_eq] at hB
  obtain ⟨hsel, hlen, hok⟩ := hB
  have hcl : ClosedL .any l.toArray (Array.replicate l.toArray.size false) := fun j oj _ hl => by
    exfalso
    rcases Nat.lt_or_ge j l.toArray.size with h' | h' <;> simp_all
  refine wp_region_any hm (wpAny_of_R (T := fun j => ks.contains j) _ _ _ _ ?_)
  have key := walkR_all (md := .any) (ops := l.toArray) (P := P) (Q := Q) (T := fun j => ks.contains j) hsel hQ r (Array.replicate l.toArray.size false) a w.drew hok hcl h.out
  rw [hlen] at key
  simpa using key

theorem news_nil {a : Act} {w : World} (h : Q .normal a w) : WR P ops Q T [] a w := ⟨h⟩
/-- S: what is known. -/
theorem news_rd {i : Nat} {r : List Stp} {o : Oper} {a : Act} {w : World} (ho : ops[i]? = some o) (hp : pureOp o.op = false) (hw : Region.wanted o (yielded ops a.tmps) = true) (S : World → Prop) (hst : ∀ w w', Mod (fun _ => False) w w' → S w → S w') (hSw : S w) (v : Value)
    (hy : ∀ w, S w → (execOp a.eval o).run P w = .ok (.value v) w)
    (h : ∀ K : Act → Prop, (∀ a', WR P ops Q T r a' w → K a') → K (a.put o.dst v)) : WR P ops Q T (.rd i :: r) a w :=
  ⟨fun o' ho' => by
    obtain rfl : o = o' := Option.some.inj (ho.symm.trans ho')
    exact ⟨S, hst, fun _ => hSw, v, .inl ⟨hw, fun w0 h0 => hy w0 (h0 hp)⟩, h _ fun _ h => h.out⟩⟩
/-- What asks nothing of memory. -/
theorem news_pure {i : Nat} {r : List Stp} {o : Oper} {a : Act} {w : World} (ho : ops[i]? = some o) (hw : Region.wanted o (yielded ops a.tmps) = true) (v : Value)
    (hy : ∀ w, (execOp a.eval o).run P w = .ok (.value v) w)
    (h : ∀ K : Act → Prop, (∀ a', WR P ops Q T r a' w → K a') → K (a.put o.dst v)) : WR P ops Q T (.rd i :: r) a w :=
  ⟨fun o' ho' => by
    obtain rfl : o = o' := Option.some.inj (ho.symm.trans ho')
    exact ⟨fun _ => True, fun _ _ _ h => h, fun _ => trivial, v, .inl ⟨hw, fun w0 _ => hy w0⟩, h _ fun _ h => h.out⟩⟩
theorem newsgo_yes {i : Nat} {o : Oper} {K : Act → World → Prop} {a : Act} {w : World} (ho : ops[i]? = some o) (hw : Region.wanted o (yielded ops a.tmps) = true)
    (h : ∀ K' : Act → World → Prop, (∀ a' w', (T i = true → Mod (fun _ => False) w w') → K a' w' → K' a' w') → o.wp P a w K' Q) : GR P ops Q T i K a w := by
  constructor
  unfold goR wpOp
  simp only [ho]
  rw [if_pos hw]
  exact .inl (h _ fun _ _ h1 h2 => ⟨h1, h2⟩)
theorem news_one {i : Nat} {r : List Stp} {a : Act} {w : World} (h : GR P ops Q T i (fun a' w' => WR P ops Q T r a' w') a w) : WR P ops Q T (.go i :: r) a w := by
  constructor
  show goR P ops Q T i (fun a' w' => walkR P ops Q T r a' w') a w
  exact goR_mono (fun _ _ h' => h'.out) h.out
end
end Go.Proofs.YtloplmaekonenaaGreatDoor

namespace Go.Proofs.YtloplmaekonenaaGreatDoor
set_option maxRecDepth 20000
open Go.RowKit

def sgn (l m : Bool) : Int := if l then -1 else if m then 1 else 0
/-- How two values of one kind stand to one another; whether they do. -/
def V.cmp (a b : V) : Int := if a.kind = 0 then sgn (decide (a.int < b.int)) (decide (b.int < a.int)) else if a.kind = 1 then sgn (fLt a.num b.num) (fLt b.num a.num) else
  if a.kind = 2 then Lib.compareBytes a.text.data.toList b.text.data.toList else sgn (!a.yes && b.yes) (a.yes && !b.yes)
def V.alike (a b : V) : Bool := a.kind == b.kind && (!a.void && !b.void)
def cmpV (a b : V) : Int × Bool := if V.alike a b = true then (V.cmp a b, true) else (0, false)

theorem sign_at (l m : Bool) (w : World) : Calls Tryz.prog 124 #[.bool l, .bool m] w fun e w' => e = .returned (.int .i64 (sgn l m)) ∧ w' = w := by
  cases l with
  | true =>
    go_enter Tryz.func124, Tryz.ntmps124
    go_wp2
    go_ret
    exact ⟨rfl, rfl⟩
  | false =>
    cases m with
    | true =>
      go_enter Tryz.func124, Tryz.ntmps124
      go_wp2
      go_ret
      exact ⟨rfl, rfl⟩
    | false =>
      go_enter Tryz.func124, Tryz.ntmps124
      go_wp2
      go_ret
      exact ⟨rfl, rfl⟩

set_option maxHeartbeats 4000000 in
theorem compare_at (a b : V) (w : World) : Calls Tryz.prog 82 #[.agg a.cells.toArray, .agg b.cells.toArray] w fun e w' => e = .returned (.tuple #[.int .i64 (cmpV a b).1, .bool (cmpV a b).2]) ∧ Mod (fun _ => False) w w' := by
  obtain ⟨wa, hwa⟩ : ∃ wa : World, w.alloc (.cells a.cells.toArray 79) = wa := ⟨_, rfl⟩
  have hmwa : Mod (fun _ => False) w wa := hwa ▸ (Mod.refl (fun _ => False) w).alloc _
  have hgwa := heap_alloc_new w (.cells a.cells.toArray 79)
  rw [hwa] at hgwa
  have hzwa : wa.heap.size = w.heap.size + 1 := by rw [← hwa]; simp
  obtain ⟨wb, hwb⟩ : ∃ wb : World, wa.alloc (.cells b.cells.toArray 79) = wb := ⟨_, rfl⟩
  have hmwb : Mod (fun _ => False) wa wb := hwb ▸ (Mod.refl (fun _ => False) wa).alloc _
  have hgwb := heap_alloc_new wa (.cells b.cells.toArray 79)
  rw [hwb] at hgwb
  have hzwb : wb.heap.size = wa.heap.size + 1 := by rw [← hwb]; simp
  have hmb := hmwa.trans hmwb (fun _ _ h => h)
  have hgA := hmwb.heap hgwa (fun h => h)
  have c0 : wb.cell? ⟨w.heap.size, 0, none⟩ = some (.int .i64 a.kind) := cell_of hgA rfl
  have c1 : wb.cell? ⟨w.heap.size, 1, none⟩ = some (.int .i64 a.int) := cell_of hgA rfl
  have c2 : wb.cell? ⟨w.heap.size, 2, none⟩ = some (.float .f64 a.num) := cell_of hgA rfl
  have c3 : wb.cell? ⟨w.heap.size, 3, none⟩ = some (.string a.text) := cell_of hgA rfl
  have c4 : wb.cell? ⟨w.heap.size, 4, none⟩ = some (.bool a.yes) := cell_of hgA rfl
  have d0 : wb.cell? ⟨wa.heap.size, 0, none⟩ = some (.int .i64 b.kind) := cell_of hgwb rfl
  have d1 : wb.cell? ⟨wa.heap.size, 1, none⟩ = some (.int .i64 b.int) := cell_of hgwb rfl
  have d2 : wb.cell? ⟨wa.heap.size, 2, none⟩ = some (.float .f64 b.num) := cell_of hgwb rfl
  have d3 : wb.cell? ⟨wa.heap.size, 3, none⟩ = some (.string b.text) := cell_of hgwb rfl
  have d4 : wb.cell? ⟨wa.heap.size, 4, none⟩ = some (.bool b.yes) := cell_of hgwb rfl
  have hlz : w.heap.size < wa.heap.size := by omega
  have hva := value_void a wb
  have Hwa := Lib.hid hwa
  have Hwb := Lib.hid hwb
  have Hmb := Lib.hid hmb
  have Hva := Lib.hid hva
  have HgA := Lib.hid hgA
  have Hgwb := Lib.hid hgwb
  clear hwa hwb hmb hva hgA hgwb hmwa hmwb hgwa hzwa hzwb
  cases hk : a.kind == b.kind with
  | false =>
    have hkn : (a.kind != b.kind) = true := by simp [bne, hk]
    have E := Lib.hid (show cmpV a b = (0, false) by unfold cmpV V.alike; rw [hk]; rfl)
    go_enter Tryz.func82, Tryz.ntmps82
    go_wp2_with (first | (rw [show w.alloc _ = wa from Hwa.out]) | (rw [show wa.alloc _ = wb from Hwb.out]) | fail)
    go_ret2
    exact ⟨by rw [E.out]; rfl, Hmb.out⟩
  | true =>
  have hkn : (a.kind != b.kind) = false := by simp [bne, hk]
  cases hv : a.void with
  | true =>
    have E := Lib.hid (show cmpV a b = (0, false) by unfold cmpV V.alike; rw [hk, hv]; rfl)
    rw [hv] at Hva
    clear hv
    go_enter Tryz.func82, Tryz.ntmps82
    go_wp2_with (first | (rw [show w.alloc _ = wa from Hwa.out]) | (rw [show wa.alloc _ = wb from Hwb.out]) | fail)
    refine Hva.out.mono ?_
    rintro e w2 ⟨rfl, hm2⟩
    have Hm2 := Lib.hid (Hmb.out.trans hm2 (fun _ _ h => h))
    clear hm2
    go_wp2
    go_ret2
    exact ⟨by rw [E.out]; rfl, Hm2.out⟩
  | false =>
  have Hhk := Lib.hid hk
  have Hhv := Lib.hid hv
  rw [hv] at Hva
  clear hv hk
  go_enter Tryz.func82, Tryz.ntmps82
  go_wp2_with (first | (rw [show w.alloc _ = wa from Hwa.out]) | (rw [show wa.alloc _ = wb from Hwb.out]) | fail)
  refine Hva.out.mono ?_
  rintro e w2 ⟨rfl, hm2⟩
  have hA2 := hm2.heap HgA.out (fun h => h)
  have hB2 := hm2.heap Hgwb.out (fun h => h)
  have hm02 := Hmb.out.trans hm2 (fun _ _ h => h)
  have d0 : w2.cell? ⟨wa.heap.size, 0, none⟩ = some (.int .i64 b.kind) := cell_of hB2 rfl
  have d1 : w2.cell? ⟨wa.heap.size, 1, none⟩ = some (.int .i64 b.int) := cell_of hB2 rfl
  have d2 : w2.cell? ⟨wa.heap.size, 2, none⟩ = some (.float .f64 b.num) := cell_of hB2 rfl
  have d3 : w2.cell? ⟨wa.heap.size, 3, none⟩ = some (.string b.text) := cell_of hB2 rfl
  have d4 : w2.cell? ⟨wa.heap.size, 4, none⟩ = some (.bool b.yes) := cell_of hB2 rfl
  have hvb := value_void b w2
  have HA2 := Lib.hid hA2
  have HB2 := Lib.hid hB2
  have Hm02 := Lib.hid hm02
  have Hvb := Lib.hid hvb
  clear hA2 hB2 hm02 hvb hm2 c0 c1 c2 c3 c4
  cases hv2 : b.void with
  | true =>
    have E := Lib.hid (show cmpV a b = (0, false) by unfold cmpV V.alike; rw [Hhk.out, Hhv.out, hv2]; rfl)
    rw [hv2] at Hvb
    clear hv2
    go_wp2_with fail
    refine Hvb.out.mono ?_
    rintro e w3 ⟨rfl, hm3⟩
    have Hm3 := Lib.hid (Hm02.out.trans hm3 (fun _ _ h => h))
    clear hm3
    go_wp2
    go_ret2
    exact ⟨by rw [E.out]; rfl, Hm3.out⟩
  | false =>
  have E := Lib.hid (show cmpV a b = (V.cmp a b, true) by unfold cmpV V.alike; rw [Hhk.out, Hhv.out, hv2]; rfl)
  rw [hv2] at Hvb
  clear hv2
  go_wp2_with fail
  refine Hvb.out.mono ?_
  rintro e w3 ⟨rfl, hm3⟩
  have hA3 := hm3.heap HA2.out (fun h => h)
  have hB3 := hm3.heap HB2.out (fun h => h)
  have c0 : w3.cell? ⟨w.heap.size, 0, none⟩ = some (.int .i64 a.kind) := cell_of hA3 rfl
  have c1 : w3.cell? ⟨w.heap.size, 1, none⟩ = some (.int .i64 a.int) := cell_of hA3 rfl
  have c2 : w3.cell? ⟨w.heap.size, 2, none⟩ = some (.float .f64 a.num) := cell_of hA3 rfl
  have c3 : w3.cell? ⟨w.heap.size, 3, none⟩ = some (.string a.text) := cell_of hA3 rfl
  have c4 : w3.cell? ⟨w.heap.size, 4, none⟩ = some (.bool a.yes) := cell_of hA3 rfl
  have d1 : w3.cell? ⟨wa.heap.size, 1, none⟩ = some (.int .i64 b.int) := cell_of hB3 rfl
  have d2 : w3.cell? ⟨wa.heap.size, 2, none⟩ = some (.float .f64 b.num) := cell_of hB3 rfl
  have d3 : w3.cell? ⟨wa.heap.size, 3, none⟩ = some (.string b.text) := cell_of hB3 rfl
  have d4 : w3.cell? ⟨wa.heap.size, 4, none⟩ = some (.bool b.yes) := cell_of hB3 rfl
  have hm03 := Hm02.out.trans hm3 (fun _ _ h => h)
  have HA3 := Lib.hid hA3
  have HB3 := Lib.hid hB3
  have Hm03 := Lib.hid hm03
  clear hA3 hB3 hm03 hm3 Hvb Hva HA2 HB2
  cases h0 : a.kind == 0 with
  | true =>
    have E2 := Lib.hid (show V.cmp a b = _ from if_pos (beq_iff_eq.1 h0))
    go_wp2_with fail
    refine (sign_at _ _ w3).mono ?_
    rintro e w4 ⟨rfl, rfl⟩
    go_wp2
    go_ret2
    exact ⟨by rw [E.out, E2.out]; rfl, Hm03.out⟩
  | false =>
  have h0' : ¬ a.kind = 0 := by simpa using h0
  have E0 := Lib.hid (show V.cmp a b = _ from if_neg h0')
  clear h0'
  cases h1 : a.kind == 1 with
  | true =>
    have E2 := Lib.hid (E0.out.trans (if_pos (beq_iff_eq.1 h1)))
    go_wp2_with fail
    go_quiet ((first | (go_at_call 125; exact Calls.quiet_of_same (less_at _ _ _)) | (go_at_call 124; exact Calls.quiet_of_same (sign_at _ _ _))))
    go_wp2
    go_ret2
    exact ⟨by rw [E.out, E2.out]; rfl, Hm03.out.drewN _⟩
  | false =>
  have h1' : ¬ a.kind = 1 := by simpa using h1
  have E1 := Lib.hid (E0.out.trans (if_neg h1'))
  clear h1'
  cases h2 : a.kind == 2 with
  | true =>
    have E2 := Lib.hid (E1.out.trans (if_pos (beq_iff_eq.1 h2)))
    go_wp2_with fail
    refine (cmp_at a.text b.text w3).mono ?_
    rintro e w4 ⟨rfl, rfl⟩
    go_wp2
    go_ret2
    exact ⟨by rw [E.out, E2.out]; rfl, Hm03.out⟩
  | false =>
    have h2' : ¬ a.kind = 2 := by simpa using h2
    have E2 := Lib.hid (E1.out.trans (if_neg h2'))
    clear h2'
    cases hya : a.yes with
    | true =>
      rw [hya] at E2 c4
      cases hyb : b.yes with
      | true =>
        rw [hyb] at E2 d4
        go_wp2_with fail
        refine (sign_at _ _ w3).mono ?_
        rintro e w4 ⟨rfl, rfl⟩
        go_wp2
        go_ret2
        exact ⟨by rw [E.out, E2.out]; rfl, Hm03.out⟩
      | false =>
        rw [hyb] at E2 d4
        go_wp2_with fail
        refine (sign_at _ _ w3).mono ?_
        rintro e w4 ⟨rfl, rfl⟩
        go_wp2
        go_ret2
        exact ⟨by rw [E.out, E2.out]; rfl, Hm03.out⟩
    | false =>
      rw [hya] at E2 c4
      cases hyb : b.yes with
      | true =>
        rw [hyb] at E2 d4
        go_wp2_with fail
        refine (sign_at _ _ w3).mono ?_
        rintro e w4 ⟨rfl, rfl⟩
        go_wp2
        go_ret2
        exact ⟨by rw [E.out, E2.out]; rfl, Hm03.out⟩
      | false =>
        rw [hyb] at E2 d4
        go_wp2_with fail
        refine (sign_at _ _ w3).mono ?_
        rintro e w4 ⟨rfl, rfl⟩
        go_wp2
        go_ret2
        exact ⟨by rw [E.out, E2.out]; rfl, Hm03.out⟩
end Go.Proofs.YtloplmaekonenaaGreatDoor

namespace Go.Proofs.YtloplmaekonenaaGreatDoor
set_option maxRecDepth 20000
open Go.RowKit

/-- Does a value do? -/
def Cnd.holds (c : Cnd) (v : V) : Bool :=
  if c.op = 7 then true else if c.op = 6 then (cmpV v c.v).2 && (v.kind == 2 && prefB v.text c.v.text) else if c.op = 0 then (cmpV v c.v).2 && (cmpV v c.v).1 == 0 else
  if c.op = 1 then (cmpV v c.v).2 && (cmpV v c.v).1 != 0 else if c.op = 2 then (cmpV v c.v).2 && decide ((cmpV v c.v).1 < 0) else if c.op = 3 then (cmpV v c.v).2 && decide ((cmpV v c.v).1 ≤ 0) else
  if c.op = 4 then (cmpV v c.v).2 && decide (0 < (cmpV v c.v).1) else if c.op = 5 then (cmpV v c.v).2 && decide (0 ≤ (cmpV v c.v).1) else false

theorem ret_bool {a b : Bool} (h : b = a) : Ending.returned (.bool a) = .returned (.bool b) := by rw [h]

set_option maxHeartbeats 8000000 in
theorem holds_at (c : Cnd) (v : V) (hc : c.v.text.size ≤ 9223372036854775807) (hv : v.text.size ≤ 9223372036854775807) (w : World) :
    Calls Tryz.prog 46 #[.agg c.cells.toArray, .agg v.cells.toArray] w fun e w' => e = .returned (.bool (c.holds v)) ∧ Mod (fun _ => False) w w' := by
  obtain ⟨wa, hwa⟩ : ∃ wa : World, w.alloc (.cells c.cells.toArray 81) = wa := ⟨_, rfl⟩
  have hmwa : Mod (fun _ => False) w wa := hwa ▸ (Mod.refl (fun _ => False) w).alloc _
  have hgwa := heap_alloc_new w (.cells c.cells.toArray 81)
  rw [hwa] at hgwa
  have hzwa : wa.heap.size = w.heap.size + 1 := by rw [← hwa]; simp
  obtain ⟨wb, hwb⟩ : ∃ wb : World, wa.alloc (.cells v.cells.toArray 79) = wb := ⟨_, rfl⟩
  have hmwb : Mod (fun _ => False) wa wb := hwb ▸ (Mod.refl (fun _ => False) wa).alloc _
  have hgwb := heap_alloc_new wa (.cells v.cells.toArray 79)
  rw [hwb] at hgwb
  have hzwb : wb.heap.size = wa.heap.size + 1 := by rw [← hwb]; simp
  have hmb := hmwa.trans hmwb (fun _ _ h => h)
  have hgA := hmwb.heap hgwa (fun h => h)
  have hcm := compare_at v c.v wb
  obtain ⟨R, hR⟩ : ∃ R, c.holds v = R := ⟨_, rfl⟩
  rw [hR]
  unfold Cnd.holds at hR
  obtain ⟨⟨n, ok⟩, hn⟩ : ∃ p, cmpV v c.v = p := ⟨_, rfl⟩
  rw [hn] at hcm hR
  simp only at hcm hR
  have hpf := fun wx => prefix_at v.text c.v.text hv hc wx
  have hlz : w.heap.size < wa.heap.size := by omega
  have Hwa := Lib.hid hwa
  have Hwb := Lib.hid hwb
  have Hmb := Lib.hid hmb
  have HgA := Lib.hid hgA
  have Hgwb := Lib.hid hgwb
  have Hcm := Lib.hid hcm
  have HR := Lib.hid hR
  have Hn := Lib.hid hn
  have Hpf := Lib.hid hpf
  clear hwa hwb hmb hgA hgwb hcm hR hn hpf hmwa hmwb hgwa hzwa hzwb hc hv
  go_enter Tryz.func46, Tryz.ntmps46
  go_wp2_with (first | (rw [show w.alloc _ = wa from Hwa.out]) | (rw [show wa.alloc _ = wb from Hwb.out]) | ((with_reducible refine wpList_load_lit 79 (.tmp 3) ?_); refine ⟨wa.heap.size, 0, rfl, v.cells, CellsAt.row Hgwb.out, by kernel_rfl, by kernel_rfl, ?_⟩) | ((with_reducible refine wpList_load_lit 79 (.tmp 9) ?_); refine ⟨w.heap.size, 2, rfl, c.v.cells, cells_from2 HgA.out, by kernel_rfl, by kernel_rfl, ?_⟩) | fail)
  refine Hcm.out.mono ?_
  rintro e w2 ⟨rfl, hm2⟩
  have hA2 := hm2.heap HgA.out (fun h => h)
  have hB2 := hm2.heap Hgwb.out (fun h => h)
  have hm02 := Hmb.out.trans hm2 (fun _ _ h => h)
  have c1 : w2.cell? ⟨w.heap.size, 1, none⟩ = some (.int .i64 c.op) := cell_of hA2 rfl
  have c5 : w2.cell? ⟨w.heap.size, 5, none⟩ = some (.string c.v.text) := cell_of hA2 rfl
  have d0 : w2.cell? ⟨wa.heap.size, 0, none⟩ = some (.int .i64 v.kind) := cell_of hB2 rfl
  have d3 : w2.cell? ⟨wa.heap.size, 3, none⟩ = some (.string v.text) := cell_of hB2 rfl
  have hpf2 := Hpf.out w2
  have Hm02 := Lib.hid hm02
  have Hpf2 := Lib.hid hpf2
  clear hm02 hpf2 hm2 hA2 hB2 Hcm HgA Hgwb Hpf Hwa Hwb Hmb
  cases ok with
  | false =>
    go_wp2
    all_goals (go_ret; refine ⟨ret_bool (HR.out.symm.trans (by (try simp only [beq_iff_eq, beq_eq_false_iff_ne, ne_eq] at *); simp [*])), Hm02.out⟩)
  | true =>
    cases hvk : v.kind == 2 with
    | false =>
      go_wp2
      all_goals (go_ret; refine ⟨ret_bool (HR.out.symm.trans (by (try simp only [beq_iff_eq, beq_eq_false_iff_ne, ne_eq] at *); simp [*])), Hm02.out⟩)
    | true =>
      go_wp2_with (refine Hpf2.out.mono ?_; rintro e w3 ⟨rfl, rfl⟩)
      all_goals (go_ret; refine ⟨ret_bool (HR.out.symm.trans (by (try simp only [beq_iff_eq, beq_eq_false_iff_ne, ne_eq] at *); simp [*])), Hm02.out⟩)
end Go.Proofs.YtloplmaekonenaaGreatDoor
