/-
  The loop that makes one row of pairs: what it holds.
-/
import Derived.Test.YtnckccpcpndcmaaTurns
namespace Go.Proofs.Ytnckccpcpndcmaa
open Go.RowKit

def PairsRel (F : List Nat → List (Int × Int)) (w : World) (m : Nat) (i a : Value) (wr : World) : Prop :=
  ∃ ks : List Nat, i = .int .i64 ((ks.length + 1 : Nat) : Int) ∧ ks.length + 1 ≤ m ∧ ks ∈ allK ks.length ∧ OwnSl wr 25 2 a ks.length (prs (F ks)) ∧ (∀ g, a.ownBlock = some g → w.heap.size ≤ g) ∧ Mod (fun _ => False) w wr

theorem pairs_next {F : List Nat → List (Int × Int)} {w wz w2 : World} {ks : List Nat} {i k m : Nat} {p : Int × Int} {a a' : Value} (hka : ks ∈ allK ks.length) (hi : ks.length + 1 = i) (hlt : i < m) (hki : k < i) (hF : F (ks ++ [k]) = F ks ++ [p])
    (hap : ∀ g, a.ownBlock = some g → w.heap.size ≤ g) (hmz : Mod (fun _ => False) w wz)
    (hA : Appended wz 25 2 a (ks.length + 1) (prs (F ks) ++ [.int .i64 p.1, .int .i64 p.2]) a' w2) : PairsRel F w m (.int .i64 ((i : Int) + 1)) a' w2 := by
  subst hi
  obtain ⟨a1, a2, a3⟩ := hA
  have hm2 : Mod (fun _ => False) w w2 := hmz.upon a2 (fun g hg => .inr (hap g hg))
  have l1 : (ks ++ [k]).length = ks.length + 1 := by simp
  have hsz2 := hmz.size
  refine ⟨ks ++ [k], by rw [l1]; simp, by rw [l1]; omega, by rw [l1]; exact allK_next hka hki, ?_, fun g hg => ?_, hm2⟩
  · rw [l1, hF, prs_append]
    exact a1
  · rcases a3 with e | ⟨q, e, hq⟩
    · exact hap g (by rw [← e]; exact hg)
    · rw [e] at hg; cases hg; omega
theorem prs_one (ps : List (Int × Int)) : ∀ u ∈ prs ps, u.oneCell' = true := fun u hu => by
  obtain ⟨p, -, hu⟩ := List.mem_flatMap.1 hu
  rcases List.mem_cons.1 hu with rfl | hu
  · rfl
  · rw [List.mem_singleton] at hu; rw [hu]; rfl
end Go.Proofs.Ytnckccpcpndcmaa
