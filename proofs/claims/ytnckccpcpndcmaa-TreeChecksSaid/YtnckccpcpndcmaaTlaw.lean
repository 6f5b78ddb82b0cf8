/-
  The laws of trees, as a check over all trees of up to six. Plain Lean.
-/
import Derived.Test.YtnckccpcpndcmaaWay
namespace Go.Proofs.Ytnckccpcpndcmaa

def ins (x : Int) : List Int → List Int
  | [] => [x]
  | y :: l => if x ≤ y then x :: y :: l else y :: ins x l
def isort : List Int → List Int
  | [] => []
  | x :: l => ins x (isort l)
theorem ins_mid (x : Int) (m : List Int) (hm : ∀ y ∈ m, x ≤ y) : ∀ (l : List Int), (∀ y ∈ l, ¬ x ≤ y) → ins x (l ++ m) = l ++ x :: m
  | [], _ => by
    cases m with
    | nil => rfl
    | cons y m => show (if x ≤ y then _ else _) = _; rw [if_pos (hm y (by simp))]; rfl
  | y :: l, h => by
    show (if x ≤ y then _ else _) = _
    rw [if_neg (h y (by simp))]
    show y :: ins x (l ++ m) = _
    rw [ins_mid x m hm l (fun z hz => h z (by simp [hz]))]
    rfl
theorem sortI_ins : ∀ l : List Int, sortI l = isort l
  | [] => by simp [sortI, isort]
  | x :: l => by
    have tr : ∀ a b c : Int, decide (a ≤ b) = true → decide (b ≤ c) = true → decide (a ≤ c) = true := fun a b c h1 h2 => by simp at *; omega
    have to : ∀ a b : Int, (decide (a ≤ b) || decide (b ≤ a)) = true := fun a b => by simp; omega
    obtain ⟨l1, l2, h1, h2, h3⟩ := List.mergeSort_cons (le := fun x y : Int => decide (x ≤ y)) tr to x l
    have hs := List.pairwise_mergeSort (le := fun x y : Int => decide (x ≤ y)) tr to (x :: l)
    rw [h1] at hs
    have hs2 := (List.pairwise_append.1 hs).2.1
    show List.mergeSort _ _ = ins x (isort l)
    rw [h1, ← sortI_ins l]
    unfold sortI
    rw [h2, ins_mid x l2 (fun y hy => by simpa using (List.pairwise_cons.1 hs2).1 y hy) l1 (fun y hy => by have := h3 y hy; simp at this; omega)]
/-- New, with a sort that can be run. -/
def newI (n : Int) (ps : List (Int × Int)) : Int × List (List Int) :=
  if n < 1 ∨ 6 < n then (3, []) else
  if (goT n ps (startT n.toNat)).1 = 0 then (if (ps.length : Int) = n - 1 then (0, (goT n ps (startT n.toNat)).2.near.map isort) else (1, [])) else ((goT n ps (startT n.toNat)).1, [])
theorem newT_ins (n : Int) (ps : List (Int × Int)) : newT n ps = newI n ps := by
  unfold newT newI
  rw [show sortI = isort from funext sortI_ins]

/-- Vectors: the i-th is below i + 1. -/
def allK : Nat → List (List Nat)
  | 0 => [[]]
  | j + 1 => (allK j).flatMap fun ks => (List.range (j + 1)).map fun k => ks ++ [k]
theorem allK_next {j k : Nat} {ks : List Nat} (h : ks ∈ allK j) (hk : k < j + 1) : ks ++ [k] ∈ allK (j + 1) := by
  unfold allK
  rw [List.mem_flatMap]
  exact ⟨ks, h, List.mem_map.2 ⟨k, List.mem_range.2 hk, rfl⟩⟩
theorem allK_length : ∀ {j : Nat} {ks : List Nat}, ks ∈ allK j → ks.length = j
  | 0, ks, h => by
    unfold allK at h
    rw [List.mem_singleton] at h
    rw [h]; rfl
  | j + 1, ks, h => by
    unfold allK at h
    rw [List.mem_flatMap] at h
    obtain ⟨l, hl, h⟩ := h
    obtain ⟨k, -, rfl⟩ := List.mem_map.1 h
    rw [List.length_append, allK_length hl]
    rfl

def pairsA (ks : List Nat) : List (Int × Int) := ks.zipIdx.map fun p => (((p.2 + 1 : Nat) : Int), (p.1 : Int))
def pairsC (ks : List Nat) : List (Int × Int) := ks.zipIdx.map fun p => ((p.1 : Int), ((p.2 + 1 : Nat) : Int))
def pairsB (ks : List Nat) : List (Int × Int) := (pairsC ks).reverse
theorem pairsA_next (ks : List Nat) (k : Nat) : pairsA (ks ++ [k]) = pairsA ks ++ [(((ks.length + 1 : Nat) : Int), (k : Int))] := by
  unfold pairsA; simp [List.zipIdx_append]
theorem pairsC_next (ks : List Nat) (k : Nat) : pairsC (ks ++ [k]) = pairsC ks ++ [((k : Int), ((ks.length + 1 : Nat) : Int))] := by
  unfold pairsC; simp [List.zipIdx_append]
theorem pairsB_next (ks : List Nat) (k : Nat) : pairsB (ks ++ [k]) = [((k : Int), ((ks.length + 1 : Nat) : Int))] ++ pairsB ks := by
  unfold pairsB; rw [pairsC_next, List.reverse_append]; rfl
theorem pairsA_length (ks : List Nat) : (pairsA ks).length = ks.length := by simp [pairsA]
theorem pairsC_length (ks : List Nat) : (pairsC ks).length = ks.length := by simp [pairsC]
theorem pairsB_length (ks : List Nat) : (pairsB ks).length = ks.length := by simp [pairsB, pairsC]

theorem fit_new : newT 3 [(0, 1), (2, 1)] = (0, [[1], [0, 2], [1]]) := by rw [newT_ins]; decide +kernel
theorem fit_path : pathF [[1], [0, 2], [1]] 7 0 2 = some [0, 1, 2] := by decide +kernel

def okN (n : Nat) (N : List (List Int)) : Bool := N.length == n && N.all fun l => decide (l.length ≤ 6)
def chkTurns (n : Nat) (ks : List Nat) : Bool :=
  let p := newI n (pairsA ks); let q := newI n (pairsB ks)
  p.1 == 0 && q.1 == 0 && p.2 == q.2 && okN n p.2 &&
  (List.range n).all fun i : Nat => match pathF p.2 7 0 i, pathF q.2 7 i 0 with
    | some R, some S => R.length == S.length
    | _, _ => false
def chkEnds (n : Nat) (ks : List Nat) : Bool :=
  let p := newI n (pairsC ks)
  p.1 == 0 && okN n p.2 && ((List.range n).map fun i : Nat => (nearF p.2 i).length).sum == 2 * (n - 1) &&
  (List.range n).all fun i : Nat => (match pathF p.2 7 i 0 with
    | some R => decide (R ≠ []) && R.getLast? == some 0
    | _ => false) && (nearF p.2 i).all fun j => linkedF p.2 j i && (match pathF p.2 7 i j with
      | some R => R.length == 2
      | _ => false)
/-- Each step of a row goes to a neighbour. -/
def steps (N : List (List Int)) : List Int → Bool
  | x :: y :: l => linkedF N x y && steps N (y :: l)
  | _ => true
def chkPaths (n : Nat) (ks : List Nat) : Bool :=
  let p := newI n (pairsA ks)
  p.1 == 0 && okN n p.2 && (List.range n).all fun x : Nat => (List.range n).all fun y : Nat => match pathF p.2 7 x y, pathF p.2 7 y x with
    | some R, some S => S == R.reverse && R.head? == some (x : Int) && R.getLast? == some (y : Int) && ((x == y) == (R.length == 1)) && decide R.Nodup && steps p.2 R && R.all fun z => decide (0 ≤ z ∧ z < 6)
    | _, _ => false
theorem turns_all : ((List.range 6).all fun n => (allK n).all fun ks => chkTurns (n + 1) ks) = true := by decide +kernel
theorem ends_all : ((List.range 6).all fun n => (allK n).all fun ks => chkEnds (n + 1) ks) = true := by decide +kernel
theorem paths_all : ((List.range 6).all fun n => (allK n).all fun ks => chkPaths (n + 1) ks) = true := by decide +kernel
end Go.Proofs.Ytnckccpcpndcmaa
