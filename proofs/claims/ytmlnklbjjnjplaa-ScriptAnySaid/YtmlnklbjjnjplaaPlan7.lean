/-
  A region that draws its order, by an invariant over its states.
-/
import Derived.Test.YtmlnklbjjnjplaaPlan6
namespace Go.Proofs.Ytmlnklbjjnjplaa
open Go.RowKit

theorem an_inv {P : Program} {md : Region.Mode} {ops : Array Oper} {Q : Exit → Act → World → Prop} {S : World → Prop} {T : Nat → Bool} (I : Nat → Array Bool → Act → World → Prop)
    (h0 : ∀ listed a w, I 0 listed a w → Region.ready md ops listed = [] ∧ Q .normal a w)
    (hs : ∀ n listed a w, I (n + 1) listed a w → ∃ js : List Nat, Region.ready md ops listed = js ∧ js ≠ [] ∧ ∀ i ∈ js, GO P ops Q S T i (fun a' w' => I n (listed.setIfInBounds i true) a' w') a w) :
    ∀ {n : Nat} {listed : Array Bool} {a : Act} {w : World}, I n listed a w → AN P md ops Q S T n listed a w
  | 0, listed, a, w, h => ⟨fun _ _ _ => h0 listed a w h⟩
  | n + 1, listed, a, w, h => by
    obtain ⟨js, hr, hne, hg⟩ := hs n listed a w h
    exact ⟨fun hsel hQ hc => ⟨fun e => absurd (hr.symm.trans e) hne, fun i hi => wpOp_mono (fun _ _ h' => ⟨h'.1, (an_inv I h0 hs h'.2).out hsel hQ (hc.set hi)⟩) (hg i (hr ▸ hi)).out⟩⟩
end Go.Proofs.Ytmlnklbjjnjplaa
