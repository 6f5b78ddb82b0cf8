/-
  A region that draws its order, walked by a script: what only reads (rd), what stands alone (go), two that may come in either order (both).
-/
import Derived.Test.YtpfnemkfbelpcaaPlan
namespace Go.Proofs.Ytpfnemkfbelpcaa
set_option maxRecDepth 20000
open Go.RowKit

inductive Stp where
  | rd (i : Nat)
  | go (i : Nat)
  | both (i j : Nat)

section
variable {P : Program} {ops : Array Oper} {Q : Exit → Act → World → Prop} {md : Region.Mode} {S : World → Prop} {T : Nat → Bool}

def scriptOk (md : Region.Mode) (ops : Array Oper) (T : Nat → Bool) : List Stp → Array Bool → Bool
  | [], listed => (Region.ready md ops listed).isEmpty
  | .rd i :: r, listed => decide (i < ops.size) && Region.free md ops listed i && (Region.ready md ops listed).contains i &&
      (((ops[i]?).map (fun o => pureOp o.op)).getD false || (List.range ops.size).all fun j => j == i || listed.getD j true || reachB md ops ops.size j i || T j) &&
      scriptOk md ops T r (listed.setIfInBounds i true)
  | .go i :: r, listed => Region.ready md ops listed == [i] && scriptOk md ops T r (listed.setIfInBounds i true)
  | .both i j :: r, listed => decide (i ≠ j) && Region.ready md ops listed == [i, j] && Region.ready md ops (listed.setIfInBounds i true) == [j] && Region.ready md ops (listed.setIfInBounds j true) == [i] &&
      scriptOk md ops T r ((listed.setIfInBounds i true).setIfInBounds j true)
def count : List Stp → Nat
  | [] => 0
  | .rd _ :: r => count r + 1
  | .go _ :: r => count r + 1
  | .both _ _ :: r => count r + 2

/-- One operation. -/
def goOp (P : Program) (ops : Array Oper) (Q : Exit → Act → World → Prop) (S : World → Prop) (T : Nat → Bool) (i : Nat) (K : Act → World → Prop) (a : Act) (w : World) : Prop :=
  wpOp P ops Q i (fun a' w' => (T i = true → S w → S w') ∧ K a' w') a w

def walkM (P : Program) (ops : Array Oper) (Q : Exit → Act → World → Prop) (S : World → Prop) (T : Nat → Bool) : List Stp → Act → World → Prop
  | [], a, w => Q .normal a w
  | .rd i :: r, a, w => ∀ o, ops[i]? = some o → (pureOp o.op = false → S w) ∧ ∃ v, YieldsIf P ops (fun w => pureOp o.op = false → S w) o v a ∧ walkM P ops Q S T r (a.put o.dst v) w
  | .go i :: r, a, w => goOp P ops Q S T i (fun a' w' => walkM P ops Q S T r a' w') a w
  | .both i j :: r, a, w => goOp P ops Q S T i (goOp P ops Q S T j (fun a' w' => walkM P ops Q S T r a' w')) a w ∧ goOp P ops Q S T j (goOp P ops Q S T i (fun a' w' => walkM P ops Q S T r a' w')) a w

theorem goOp_mono {i : Nat} {K K' : Act → World → Prop} {a : Act} {w : World} (h : ∀ a w, K a w → K' a w) (hh : goOp P ops Q S T i K a w) : goOp P ops Q S T i K' a w :=
  wpOp_mono (fun a' w' h' => ⟨h'.1, h a' w' h'.2⟩) hh

theorem walk_all (hsel : Region.noSelect ops = true) (hQ : ∀ (c : List PanicEntry) (a : Act) (d : Option Tmp) (v : Value) (w : World), Q (.panic c) (a.put d v) w → Q (.panic c) a w) :
    ∀ (r : List Stp) (listed : Array Bool) (a : Act) (w : World), scriptOk md ops T r listed = true → ClosedL md ops listed → walkM P ops Q S T r a w → wpAnyG P md ops Q S T (count r) listed a w
  | [], listed, a, w, hok, _, h => by
    simp only [scriptOk, List.isEmpty_iff] at hok
    exact ⟨hok, h⟩
  | .rd i :: r, listed, a, w, hok, hc, h => by
    simp only [scriptOk, Bool.and_eq_true, decide_eq_true_eq] at hok
    obtain ⟨⟨⟨⟨hi, hf⟩, hr⟩, hp⟩, hok⟩ := hok
    obtain ⟨o, ho⟩ : ∃ o, ops[i]? = some o := ⟨_, Array.getElem?_eq_getElem hi⟩
    obtain ⟨hSw, v, hy, h⟩ := h o ho
    have hri : i ∈ Region.ready md ops listed := by simpa using hr
    exact wpAnyG_first (S := S) (T := T) (S' := fun w => pureOp o.op = false → S w) ho (Region.noSelect_spec hsel) (fun c a w => hQ c a o.dst v w) (count r) listed a w hc (Region.free_spec ho hf)
      (fun j hj hji hun hre w w' hT h hpf => by
        simp only [ho, Option.map_some, Option.getD_some, hpf, Bool.false_or, List.all_eq_true, List.mem_range, Bool.or_eq_true, beq_iff_eq] at hp
        rcases hp j hj with ((h1 | h1) | h1) | h1
        · exact absurd h1 hji
        · rw [hun] at h1; cases h1
        · rw [hre] at h1; cases h1
        · exact hT h1 (h hpf))
      hri hy hSw (walk_all hsel hQ r (listed.setIfInBounds i true) (a.put o.dst v) w hok (hc.set hri) h)
  | .go i :: r, listed, a, w, hok, hc, h => by
    simp only [scriptOk, Bool.and_eq_true, beq_iff_eq] at hok
    obtain ⟨hr, hok⟩ := hok
    have hri : i ∈ Region.ready md ops listed := by rw [hr]; simp
    refine ⟨fun h0 => (by rw [hr] at h0; cases h0), fun j hj => ?_⟩
    rw [hr] at hj
    obtain rfl : j = i := by simpa using hj
    have h : goOp P ops Q S T j (fun a' w' => walkM P ops Q S T r a' w') a w := h
    exact wpOp_mono (fun a' w' h' => ⟨h'.1, walk_all hsel hQ r _ a' w' hok (hc.set hri) h'.2⟩) h
  | .both i j :: r, listed, a, w, hok, hc, h => by
    simp only [scriptOk, Bool.and_eq_true, beq_iff_eq, decide_eq_true_eq] at hok
    obtain ⟨⟨⟨⟨hij, hr⟩, hr1⟩, hr2⟩, hok⟩ := hok
    have hri : i ∈ Region.ready md ops listed := by rw [hr]; simp
    have hrj : j ∈ Region.ready md ops listed := by rw [hr]; simp
    have hrj2 : j ∈ Region.ready md ops (listed.setIfInBounds i true) := by rw [hr1]; simp
    refine ⟨fun h0 => (by rw [hr] at h0; cases h0), fun k hk => ?_⟩
    rw [hr] at hk
    have hk' : k = i ∨ k = j := by simpa using hk
    have hA : goOp P ops Q S T i (goOp P ops Q S T j (fun a' w' => walkM P ops Q S T r a' w')) a w := h.1
    have hB : goOp P ops Q S T j (goOp P ops Q S T i (fun a' w' => walkM P ops Q S T r a' w')) a w := h.2
    rcases hk' with rfl | rfl
    · refine wpOp_mono (fun a' w' h' => ⟨h'.1, ?_⟩) hA
      refine ⟨fun h0 => (by rw [hr1] at h0; cases h0), fun k' hk' => ?_⟩
      rw [hr1] at hk'
      obtain rfl : k' = j := by simpa using hk'
      exact wpOp_mono (fun a' w' h' => ⟨h'.1, walk_all hsel hQ r _ a' w' hok ((hc.set hri).set hrj2) h'.2⟩) h'.2
    · refine wpOp_mono (fun a' w' h' => ⟨h'.1, ?_⟩) hB
      refine ⟨fun h0 => (by rw [hr2] at h0; cases h0), fun k' hk' => ?_⟩
      rw [hr2] at hk'
      obtain rfl : k' = i := by simpa using hk'
      rw [Array.setIfInBounds_comm _ _ hij.symm]
      exact wpOp_mono (fun a' w' h' => ⟨h'.1, walk_all hsel hQ r _ a' w' hok ((hc.set hri).set hrj2) h'.2⟩) h'.2

/-- Behind a structure, so that nothing unfolds it. -/
structure WM (P : Program) (ops : Array Oper) (Q : Exit → Act → World → Prop) (S : World → Prop) (T : Nat → Bool) (r : List Stp) (a : Act) (w : World) : Prop where
  out : walkM P ops Q S T r a w
structure GO (P : Program) (ops : Array Oper) (Q : Exit → Act → World → Prop) (S : World → Prop) (T : Nat → Bool) (i : Nat) (K : Act → World → Prop) (a : Act) (w : World) : Prop where
  out : goOp P ops Q S T i K a w

/-- THE LAW. -/
theorem wp_region_script {id : Nat} {a : Act} {w : World} {l : List Oper} (r : List Stp) (ks : List Nat) (S : World → Prop) (hm : P.follows .mixedOrders = true)
    (hB : (Region.noSelect l.toArray && (decide (count r = l.length) && scriptOk .any l.toArray (fun j => ks.contains j) r (Array.replicate l.toArray.size false))) = true)
    (hQ : ∀ (c : List PanicEntry) (a : Act) (d : Option Tmp) (v : Value) (w : World), Q (.panic c) (a.put d v) w → Q (.panic c) a w)
    (h : WM P l.toArray Q S (fun j => ks.contains j) r a w.drew) : (Code.region id l.toArray true).wp P Q a w := by
  simp only [Bool.and_eq_true, decide_eq_true_eq] at hB
  obtain ⟨hsel, hlen, hok⟩ := hB
  have hcl : ClosedL .any l.toArray (Array.replicate l.toArray.size false) := fun j oj _ hl => by
    exfalso
    rcases Nat.lt_or_ge j l.toArray.size with h' | h' <;> simp_all
  refine wp_region_any hm (wpAny_of_G (S := S) (T := fun j => ks.contains j) _ _ _ _ ?_)
  have key := walk_all (md := .any) (ops := l.toArray) (P := P) (Q := Q) (S := S) (T := fun j => ks.contains j) hsel hQ r (Array.replicate l.toArray.size false) a w.drew hok hcl h.out
  rw [hlen] at key
  simpa using key

theorem walk_nil {a : Act} {w : World} (h : Q .normal a w) : WM P ops Q S T [] a w := ⟨h⟩
theorem walk_rd {i : Nat} {r : List Stp} {o : Oper} {a : Act} {w : World} (ho : ops[i]? = some o) (hw : Region.wanted o (yielded ops a.tmps) = true) (hSw : pureOp o.op = false → S w) (v : Value)
    (hy : ∀ w, (pureOp o.op = false → S w) → (execOp a.eval o).run P w = .ok (.value v) w)
    (h : ∀ K : Act → Prop, (∀ a', WM P ops Q S T r a' w → K a') → K (a.put o.dst v)) : WM P ops Q S T (.rd i :: r) a w :=
  ⟨fun o' ho' => by
    obtain rfl : o = o' := Option.some.inj (ho.symm.trans ho')
    exact ⟨hSw, v, .inl ⟨hw, hy⟩, h _ fun _ h => h.out⟩⟩
theorem walk_rd_no {i : Nat} {r : List Stp} {o : Oper} {a : Act} {w : World} (ho : ops[i]? = some o) (hw : Region.wanted o (yielded ops a.tmps) = false) (hSw : pureOp o.op = false → S w)
    (h : ∀ K : Act → Prop, (∀ a', WM P ops Q S T r a' w → K a') → K (a.put o.dst undef)) : WM P ops Q S T (.rd i :: r) a w :=
  ⟨fun o' ho' => by
    obtain rfl : o = o' := Option.some.inj (ho.symm.trans ho')
    exact ⟨hSw, undef, .inr ⟨hw, rfl⟩, h _ fun _ h => h.out⟩⟩
theorem go_yes {i : Nat} {o : Oper} {K : Act → World → Prop} {a : Act} {w : World} (ho : ops[i]? = some o) (hw : Region.wanted o (yielded ops a.tmps) = true)
    (h : ∀ K' : Act → World → Prop, (∀ a' w', (T i = true → S w → S w') → K a' w' → K' a' w') → o.wp P a w K' Q) : GO P ops Q S T i K a w := by
  constructor
  unfold goOp wpOp
  simp only [ho]
  rw [if_pos hw]
  exact .inl (h _ fun _ _ h1 h2 => ⟨h1, h2⟩)
theorem go_no {i : Nat} {o : Oper} {K : Act → World → Prop} {a : Act} {w : World} (ho : ops[i]? = some o) (hw : Region.wanted o (yielded ops a.tmps) = false)
    (h : ∀ K' : Act → Prop, (∀ a', K a' w → K' a') → K' (a.put o.dst undef)) : GO P ops Q S T i K a w := by
  constructor
  unfold goOp wpOp
  simp only [ho]
  rw [if_neg (by rw [hw]; decide)]
  exact ⟨fun _ h => h, h _ fun _ h => h⟩
theorem walk_one {i : Nat} {r : List Stp} {a : Act} {w : World} (h : GO P ops Q S T i (fun a' w' => WM P ops Q S T r a' w') a w) : WM P ops Q S T (.go i :: r) a w := by
  constructor
  show goOp P ops Q S T i (fun a' w' => walkM P ops Q S T r a' w') a w
  exact goOp_mono (fun _ _ h' => h'.out) h.out
theorem walk_both {i j : Nat} {r : List Stp} {a : Act} {w : World} (h1 : GO P ops Q S T i (fun a1 w1 => GO P ops Q S T j (fun a' w' => WM P ops Q S T r a' w') a1 w1) a w)
    (h2 : GO P ops Q S T j (fun a1 w1 => GO P ops Q S T i (fun a' w' => WM P ops Q S T r a' w') a1 w1) a w) : WM P ops Q S T (.both i j :: r) a w := by
  constructor
  show goOp P ops Q S T i (goOp P ops Q S T j (fun a' w' => walkM P ops Q S T r a' w')) a w ∧ goOp P ops Q S T j (goOp P ops Q S T i (fun a' w' => walkM P ops Q S T r a' w')) a w
  exact ⟨goOp_mono (fun _ _ h' => goOp_mono (fun _ _ h'' => h''.out) h'.out) h1.out, goOp_mono (fun _ _ h' => goOp_mono (fun _ _ h'' => h''.out) h'.out) h2.out⟩
/-- Both orders meet. -/
theorem walk_both_via {i j : Nat} {r : List Stp} {a : Act} {w : World} (di dj : Option Tmp) (R : Value → Value → World → Prop)
    (h1 : GO P ops Q S T i (fun a1 w1 => GO P ops Q S T j (fun a' w' => ∃ x y, a' = (a.put di x).put dj y ∧ R x y w') a1 w1) a w)
    (h2 : GO P ops Q S T j (fun a1 w1 => GO P ops Q S T i (fun a' w' => ∃ x y, a' = (a.put di x).put dj y ∧ R x y w') a1 w1) a w)
    (h : ∀ x y w', R x y w' → ∀ K : Act → World → Prop, (∀ a' w', WM P ops Q S T r a' w' → K a' w') → K ((a.put di x).put dj y) w') : WM P ops Q S T (.both i j :: r) a w := by
  have hh : ∀ a' w', (∃ x y, a' = (a.put di x).put dj y ∧ R x y w') → WM P ops Q S T r a' w' := by
    rintro _ w' ⟨x, y, rfl, hR⟩
    exact h x y w' hR (fun a' w' => WM P ops Q S T r a' w') (fun _ _ h => h)
  exact walk_both ⟨goOp_mono (fun _ _ h' => ⟨goOp_mono (fun _ _ h'' => hh _ _ h'') h'.out⟩) h1.out⟩ ⟨goOp_mono (fun _ _ h' => ⟨goOp_mono (fun _ _ h'' => hh _ _ h'') h'.out⟩) h2.out⟩
end
end Go.Proofs.Ytpfnemkfbelpcaa
