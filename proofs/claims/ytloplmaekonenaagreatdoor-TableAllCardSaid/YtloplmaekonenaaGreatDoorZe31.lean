/-
  Package table in memory.
-/
import Derived.Test.YtloplmaekonenaaGreatDoorZe30
namespace Go.Proofs.YtloplmaekonenaaGreatDoor
set_option maxRecDepth 20000
open Go.RowKit

/-- A filter's key. -/
def keyF (q : Fil) : List UInt8 := filPrt q.1 q.2
/-- What a place has under a key. -/
def tabF (M : List (Int × Fil)) (id : Int) (k : List UInt8) : Option Fil := (M.find? fun p => p.1 == id && keyF p.2 == k).map Prod.snd

theorem FilIs.mod2 {w w' : World} {F own C : Nat → Prop} {v : Option Value} {q : Option Fil} (h : FilIs w own C v q) (hm : Mod F w w') (hF : ∀ k, k < w.heap.size → F k → ¬ C k) : FilIs w' own C v q := by
  cases v <;> cases q
  · trivial
  · exact h
  · exact h
  · obtain ⟨a, cap, h1, h2, h3⟩ := h
    exact ⟨a, cap, h1, h2.mod hm (fun k hk hf => hF k (h3 k hk).1 hf (h3 k hk).2.2), fun k hk => ⟨Nat.lt_of_lt_of_le (h3 k hk).1 hm.size, (h3 k hk).2⟩⟩
theorem FilIs.cong {w : World} {own own' C C' : Nat → Prop} {v : Option Value} {q : Option Fil} (h : FilIs w own C v q) (ho : ∀ k, k < w.heap.size → C k → own' k → own k) (hC : ∀ k, C k → C' k) : FilIs w own' C' v q := by
  cases v <;> cases q
  · trivial
  · exact h
  · exact h
  · obtain ⟨a, cap, h1, h2, h3⟩ := h
    exact ⟨a, cap, h1, h2, fun k hk => ⟨(h3 k hk).1, fun h => (h3 k hk).2.1 (ho k (h3 k hk).1 (h3 k hk).2.2 h), hC k (h3 k hk).2.2⟩⟩

/-- A map of filters by keys: g tells what it has. -/
def KAt (w : World) (own C : Nat → Prop) (mi N : Nat) (g : List UInt8 → Option Fil) : Prop :=
  ∃ n f, MapR w 9 mi n f ∧ n ≤ N ∧ ∀ k, FilIs w own C (f (.string k)) (g k)
theorem KAt.mod {w w' : World} {F own C : Nat → Prop} {mi N : Nat} {g : List UInt8 → Option Fil} (h : KAt w own C mi N g) (hm : Mod F w w') (h1 : ¬ F mi) (hF : ∀ k, k < w.heap.size → F k → ¬ C k) : KAt w' own C mi N g := by
  obtain ⟨n, f, h2, h3, h4⟩ := h
  exact ⟨n, f, h2.mod hm h1, h3, fun k => (h4 k).mod2 hm hF⟩
theorem KAt.cong {w : World} {own own' C C' : Nat → Prop} {mi N N' : Nat} {g g' : List UInt8 → Option Fil} (h : KAt w own C mi N g) (ho : ∀ k, k < w.heap.size → C k → own' k → own k) (hC : ∀ k, C k → C' k) (hN : N ≤ N') (hg : ∀ k, g' k = g k) : KAt w own' C' mi N' g' := by
  obtain ⟨n, f, h2, h3, h4⟩ := h
  exact ⟨n, f, h2, Nat.le_trans h3 hN, fun k => by rw [hg]; exact (h4 k).cong ho hC⟩
theorem KAt.lt {w : World} {own C : Nat → Prop} {mi N : Nat} {g : List UInt8 → Option Fil} (h : KAt w own C mi N g) : mi < w.heap.size := by
  obtain ⟨n, f, h2, -⟩ := h
  exact h2.lt
/-- What stands in the outer map at a place. -/
def InAt (w : World) (own C : Nat → Prop) (b mo N : Nat) (g : List UInt8 → Option Fil) : Option Value → Prop
  | none => ∀ k, g k = none
  | some v => ∃ mi, v = .map (some mi) ∧ own mi ∧ mi ≠ b ∧ mi ≠ mo ∧ KAt w own C mi N g
theorem InAt.mod {w w' : World} {F own C : Nat → Prop} {b mo N : Nat} {g : List UInt8 → Option Fil} {v : Option Value} (h : InAt w own C b mo N g v) (hm : Mod F w w') (h1 : ∀ mi, v = some (.map (some mi)) → ¬ F mi) (hF : ∀ k, k < w.heap.size → F k → ¬ C k) : InAt w' own C b mo N g v := by
  cases v with
  | none => exact h
  | some v =>
    obtain ⟨mi, rfl, h2, h3, h4, h5⟩ := h
    exact ⟨mi, rfl, h2, h3, h4, h5.mod hm (h1 mi rfl) hF⟩
theorem InAt.cong {w : World} {own own' C C' : Nat → Prop} {b mo N N' : Nat} {g g' : List UInt8 → Option Fil} {v : Option Value} (h : InAt w own C b mo N g v) (ho : ∀ k, k < w.heap.size → C k → own' k → own k) (ho2 : ∀ k, own k → own' k) (hC : ∀ k, C k → C' k) (hN : N ≤ N') (hg : ∀ k, g' k = g k) : InAt w own' C' b mo N' g' v := by
  cases v with
  | none => exact fun k => (hg k).trans (h k)
  | some v =>
    obtain ⟨mi, rfl, h2, h3, h4, h5⟩ := h
    exact ⟨mi, rfl, ho2 mi h2, h3, h4, h5.cong ho hC hN hg⟩
/-- The outer map. -/
def OMap (w : World) (own C : Nat → Prop) (b mo N : Nat) (M : List (Int × Fil)) : Prop :=
  ∃ n f, MapR w 3 mo n f ∧ n ≤ N ∧ (∀ id : Int, InAt w own C b mo N (tabF M id) (f (.int .i64 id))) ∧ ∀ (x y : Int) mi, f (.int .i64 x) = some (.map (some mi)) → f (.int .i64 y) = some (.map (some mi)) → x = y
/-- A table in memory: its own blocks are those of 'own', those of its filters' conditions of C; N bounds what was ever added. -/
structure TabAt (w : World) (b mo : Nat) (own C : Nat → Prop) (M : List (Int × Fil)) (N : Nat) : Prop where
  row : w.heap[b]? = some (.cells #[.map (some mo)] 103 (0, 0))
  ob : own b ∧ own mo
  ne : b ≠ mo
  om : OMap w own C b mo N M
  nd : M.Pairwise fun p q => ¬ (p.1 = q.1 ∧ keyF p.2 = keyF q.2)
  low : M.length ≤ N
  dis : ∀ k, own k → ¬ C k
  olow : ∀ k, own k → k < w.heap.size
  clow : ∀ k, C k → k < w.heap.size
  wf : ∀ p ∈ M, (Lit.int .i64 p.1).wf = true ∧ p.2.2.length ≤ 19 ∧ ∀ c ∈ p.2.2, c.fits
  sc : ∀ p ∈ M, p.2.1.size ≤ 1000000
/-- A table. -/
def Tab (w : World) (b : Nat) (own C : Nat → Prop) (M : List (Int × Fil)) (N : Nat) : Prop := ∃ mo, TabAt w b mo own C M N
theorem OMap.mod {w w' : World} {F own C : Nat → Prop} {b mo N : Nat} {M : List (Int × Fil)} (h : OMap w own C b mo N M) (hm : Mod F w w') (h1 : ¬ F mo) (hF : ∀ k, k < w.heap.size → F k → ¬ own k ∧ ¬ C k) : OMap w' own C b mo N M := by
  obtain ⟨n, f, h2, h3, h4, h5⟩ := h
  refine ⟨n, f, h2.mod hm h1, h3, fun id => (h4 id).mod hm (fun mi hmi hf => ?_) (fun k hk hf => (hF k hk hf).2), h5⟩
  have h6 := h4 id
  rw [hmi] at h6
  obtain ⟨mi', e, h7, -, -, h8⟩ := h6
  cases e
  exact (hF mi h8.lt hf).1 h7
theorem TabAt.mod {w w' : World} {b mo : Nat} {own C F : Nat → Prop} {M : List (Int × Fil)} {N : Nat} (h : TabAt w b mo own C M N) (hm : Mod F w w') (hF : ∀ k, k < w.heap.size → F k → ¬ own k ∧ ¬ C k) : TabAt w' b mo own C M N :=
  have hn : ∀ k, own k → ¬ F k := fun k hk hf => (hF k (h.olow k hk) hf).1 hk
  ⟨hm.heap h.row (hn _ h.ob.1), h.ob, h.ne, h.om.mod hm (hn _ h.ob.2) hF, h.nd, h.low, h.dis, fun k hk => Nat.lt_of_lt_of_le (h.olow k hk) hm.size, fun k hk => Nat.lt_of_lt_of_le (h.clow k hk) hm.size, h.wf, h.sc⟩
theorem Tab.mod {w w' : World} {b : Nat} {own C F : Nat → Prop} {M : List (Int × Fil)} {N : Nat} (h : Tab w b own C M N) (hm : Mod F w w') (hF : ∀ k, k < w.heap.size → F k → ¬ own k ∧ ¬ C k) : Tab w' b own C M N := by
  obtain ⟨mo, h⟩ := h
  exact ⟨mo, h.mod hm hF⟩
theorem Tab.mod0 {w w' : World} {b : Nat} {own C F : Nat → Prop} {M : List (Int × Fil)} {N : Nat} (h : Tab w b own C M N) (hm : Mod F w w') (hF : ∀ k, k < w.heap.size → ¬ F k) : Tab w' b own C M N := h.mod hm (fun k hk hf => absurd hf (hF k hk))
theorem Tab.low {w : World} {b : Nat} {own C : Nat → Prop} {M : List (Int × Fil)} {N : Nat} (h : Tab w b own C M N) : (∀ k, own k → k < w.heap.size) ∧ ∀ k, C k → k < w.heap.size := by
  obtain ⟨mo, h⟩ := h
  exact ⟨h.olow, h.clow⟩

/-! ### What is in a table -/
theorem tabF_some {M : List (Int × Fil)} {id : Int} {k : List UInt8} {q : Fil} (h : tabF M id k = some q) : (id, q) ∈ M ∧ keyF q = k := by
  unfold tabF at h
  obtain ⟨p, h1, rfl⟩ := Option.map_eq_some_iff.1 h
  have h2 := List.find?_some h1
  simp only [Bool.and_eq_true, beq_iff_eq] at h2
  obtain ⟨x, q⟩ := p
  obtain ⟨rfl, h3⟩ := h2
  exact ⟨List.mem_of_find?_eq_some h1, h3⟩
theorem tabF_none {M : List (Int × Fil)} {id : Int} {k : List UInt8} (h : tabF M id k = none) : ∀ q, (id, q) ∈ M → keyF q ≠ k := fun q hq e => by
  unfold tabF at h
  rw [Option.map_eq_none_iff, List.find?_eq_none] at h
  have := h _ hq
  simp [e] at this
theorem tabF_mem {M : List (Int × Fil)} (hn : M.Pairwise fun p q => ¬ (p.1 = q.1 ∧ keyF p.2 = keyF q.2)) {id : Int} {q : Fil} (h : (id, q) ∈ M) : tabF M id (keyF q) = some q := by
  induction M with
  | nil => cases h
  | cons p M ih =>
    rw [List.pairwise_cons] at hn
    unfold tabF
    rw [List.find?_cons]
    rcases List.mem_cons.1 h with h | h
    · subst h; simp
    · have hne : (p.1 == id && keyF p.2 == keyF q) = false := by
        rw [Bool.eq_false_iff]
        intro e
        simp only [Bool.and_eq_true, beq_iff_eq] at e
        exact hn.1 _ h e
      rw [hne]
      exact ih hn.2 h
theorem tabF_new {M : List (Int × Fil)} {id : Int} {q : Fil} (h : tabF M id (keyF q) = none) (x : Int) (k : List UInt8) : tabF (M ++ [(id, q)]) x k = if x = id ∧ k = keyF q then some q else tabF M x k := by
  have h1 : tabF (M ++ [(id, q)]) x k = (tabF M x k).or (if x = id ∧ k = keyF q then some q else none) := by
    unfold tabF
    rw [List.find?_append]
    cases M.find? fun p => p.1 == x && keyF p.2 == k with
    | some p => rfl
    | none =>
      rw [Option.none_or, Option.map_none, Option.none_or, List.find?_cons]
      by_cases e : x = id ∧ k = keyF q
      · obtain ⟨rfl, rfl⟩ := e
        simp
      · rw [if_neg e]
        have : (id == x && keyF q == k) = false := by
          rw [Bool.eq_false_iff]
          intro h
          simp only [Bool.and_eq_true, beq_iff_eq] at h
          exact e ⟨h.1.symm, h.2.symm⟩
        simp [this]
  rw [h1]
  by_cases e : x = id ∧ k = keyF q
  · obtain ⟨rfl, rfl⟩ := e
    rw [h, if_pos ⟨rfl, rfl⟩]; rfl
  · rw [if_neg e, if_neg e, Option.or_none]
/-- Without one place's one key. -/
def tabD (M : List (Int × Fil)) (id : Int) (k : List UInt8) : List (Int × Fil) := M.filter fun p => !(p.1 == id && keyF p.2 == k)
theorem find_filter {α : Type} (l : List α) (p q : α → Bool) : (l.filter q).find? p = l.find? fun x => q x && p x := by
  induction l with
  | nil => rfl
  | cons a l ih =>
    rw [List.filter_cons, List.find?_cons]
    by_cases h : q a = true
    · rw [if_pos h, List.find?_cons, h, Bool.true_and, ih]
    · rw [if_neg h, ih]
      have : q a = false := by simpa using h
      simp [this]
theorem find_cong {α : Type} {l : List α} {p q : α → Bool} (h : ∀ x ∈ l, p x = q x) : l.find? p = l.find? q := by
  induction l with
  | nil => rfl
  | cons a l ih =>
    rw [List.find?_cons, List.find?_cons, h a (List.mem_cons_self ..), ih (fun x hx => h x (List.mem_cons_of_mem _ hx))]
theorem tabF_del (M : List (Int × Fil)) (id : Int) (k : List UInt8) (x : Int) (y : List UInt8) : tabF (tabD M id k) x y = if x = id ∧ y = k then none else tabF M x y := by
  unfold tabF tabD
  rw [find_filter]
  by_cases e : x = id ∧ y = k
  · obtain ⟨rfl, rfl⟩ := e
    rw [if_pos ⟨rfl, rfl⟩, Option.map_eq_none_iff, List.find?_eq_none]
    intro p _
    cases (p.1 == x && keyF p.2 == y) <;> simp
  · rw [if_neg e]
    congr 1
    refine find_cong fun p _ => ?_
    cases h : (p.1 == x && keyF p.2 == y) with
    | false => simp
    | true =>
      simp only [Bool.and_eq_true, beq_iff_eq] at h
      have : (p.1 == id && keyF p.2 == k) = false := by
        rw [Bool.eq_false_iff]
        intro h2
        simp only [Bool.and_eq_true, beq_iff_eq] at h2
        exact e ⟨h.1.symm.trans h2.1, h.2.symm.trans h2.2⟩
      simp [this]
/-- Without a place. -/
def tabX (M : List (Int × Fil)) (id : Int) : List (Int × Fil) := M.filter fun p => !(p.1 == id)
theorem tabF_drop (M : List (Int × Fil)) (id x : Int) (y : List UInt8) : tabF (tabX M id) x y = if x = id then none else tabF M x y := by
  unfold tabF tabX
  rw [find_filter]
  by_cases e : x = id
  · subst e
    rw [if_pos rfl, Option.map_eq_none_iff, List.find?_eq_none]
    intro p _
    cases (p.1 == x) <;> simp
  · rw [if_neg e]
    congr 1
    refine find_cong fun p _ => ?_
    by_cases h : p.1 = x
    · have : (p.1 == id) = false := by rw [beq_eq_false_iff_ne]; exact fun h2 => e (h.symm.trans h2)
      simp [this]
    · have : (p.1 == x) = false := by rw [beq_eq_false_iff_ne]; exact h
      simp [this]
end Go.Proofs.YtloplmaekonenaaGreatDoor
