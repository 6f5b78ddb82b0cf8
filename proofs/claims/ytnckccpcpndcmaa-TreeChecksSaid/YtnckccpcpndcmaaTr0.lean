/-
  Trees: what New makes of pairs. Plain Lean.
-/
import Derived.Test.YtnckccpcpndcmaaProg
namespace Go.Proofs.Ytnckccpcpndcmaa

/-- Neighbours, and roots. -/
structure TS where
  near : List (List Int)
  root : List Int
def TS.step (s : TS) (a b : Nat) : TS :=
  ⟨(s.near.set a (s.near.getD a [] ++ [(b : Int)])).set b (s.near.getD b [] ++ [(a : Int)]), s.root.map fun r => if r = s.root.getD b 0 then s.root.getD a 0 else r⟩
/-- 0: all pairs went in; 3: one is none; 1: one goes round. -/
def goT (n : Int) : List (Int × Int) → TS → Int × TS
  | [], s => (0, s)
  | p :: ps, s =>
    if p.1 < 0 ∨ p.2 < 0 ∨ n ≤ p.1 ∨ n ≤ p.2 ∨ p.1 = p.2 then (3, s) else
    if s.root.getD p.1.toNat 0 = s.root.getD p.2.toNat 0 then (1, s) else goT n ps (s.step p.1.toNat p.2.toNat)
def startT (n : Nat) : TS := ⟨List.replicate n [], (List.range n).map Int.ofNat⟩
def sortI (l : List Int) : List Int := l.mergeSort fun x y => decide (x ≤ y)
/-- Its error, and the neighbours of a tree. -/
def newT (n : Int) (ps : List (Int × Int)) : Int × List (List Int) :=
  if n < 1 ∨ 6 < n then (3, []) else
  if (goT n ps (startT n.toNat)).1 = 0 then (if (ps.length : Int) = n - 1 then (0, (goT n ps (startT n.toNat)).2.near.map sortI) else (1, [])) else ((goT n ps (startT n.toNat)).1, [])

theorem goT_cons (n : Int) (p : Int × Int) (ps : List (Int × Int)) (s : TS) : goT n (p :: ps) s = if p.1 < 0 ∨ p.2 < 0 ∨ n ≤ p.1 ∨ n ≤ p.2 ∨ p.1 = p.2 then (3, s) else
    if s.root.getD p.1.toNat 0 = s.root.getD p.2.toNat 0 then (1, s) else goT n ps (s.step p.1.toNat p.2.toNat) := rfl
theorem goT_append (n : Int) : ∀ (l m : List (Int × Int)) (s : TS), goT n (l ++ m) s = if (goT n l s).1 = 0 then goT n m (goT n l s).2 else goT n l s
  | [], m, s => rfl
  | p :: l, m, s => by
    rw [List.cons_append, goT_cons, goT_cons]
    split
    · rw [if_neg (show ¬ (3 : Int) = 0 by decide)]
    · split
      · rw [if_neg (show ¬ (1 : Int) = 0 by decide)]
      · exact goT_append n l m _
theorem goT_take {n : Int} {ps : List (Int × Int)} {j : Nat} {p : Int × Int} {s s0 : TS} (h : goT n (ps.take j) s0 = (0, s)) (hp : ps[j]? = some p) : goT n (ps.take (j + 1)) s0 = goT n [p] s := by
  rw [List.take_add_one, hp, goT_append, h]
  rfl
theorem goT_stop {n : Int} {ps : List (Int × Int)} {j : Nat} {s0 : TS} (h : (goT n (ps.take j) s0).1 ≠ 0) : goT n ps s0 = goT n (ps.take j) s0 := by
  conv => lhs; rw [← List.take_append_drop j ps]
  rw [goT_append, if_neg h]
end Go.Proofs.Ytnckccpcpndcmaa
