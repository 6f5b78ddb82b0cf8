/-
  A map[int]bool that the call made: what is not in it reads as false.
-/
import Derived.Test.YtnckccpcpndcmaaTree
import Derived.Maps.OwnSet
import Derived.Maps.Own
import Derived.Carry
namespace Go.Proofs.Ytnckccpcpndcmaa
open Go.RowKit

theorem keyed_int : Maps.Keyed Try.prog 3 := Maps.int_keyed Try.underlying3
theorem zero_bool (w : World) : (zeroValue 4).run Try.prog w = .ok (.bool false) w := by kernel_rfl
/-- Block b is a map[int]bool; what is in it is said by P. -/
def MapB (w : World) (b n : Nat) (P : Int → Prop) : Prop :=
  ∃ D : DataW Unit, w.ownsMap Try.prog 3 (plainElem Try.prog 4) b n D ∧ ∀ z : Int, ¬ P z → D.atKey (.int .i64 z) (.lit (.bool false)) = .lit (.bool false)
theorem MapB.made (w : World) : MapB (w.alloc (.map #[] 0)) w.heap.size 0 (fun _ => False) := ⟨.map [], World.ownsMap_made _ _ _ _, fun _ _ => rfl⟩
theorem MapB.mod {w w' : World} {b n : Nat} {P : Int → Prop} {F : Nat → Prop} (h : MapB w b n P) (hm : Mod F w w') (hF : ¬ F b) : MapB w' b n P := by
  obtain ⟨D, ⟨es, clock, h1, h2⟩, h3⟩ := h
  exact ⟨D, ⟨es, clock, hm.heap h1 hF, h2⟩, h3⟩
theorem MapB.look {w : World} {b n : Nat} {P : Int → Prop} {x : Int} (h : MapB w b n P) (hx : ¬ P x) (hw : (Lit.int .i64 x).wf = true) : (Instr.lookup 38 (.map (some b)) (.int .i64 x) false).run Try.prog w = .ok (.bool false) w := by
  obtain ⟨D, h1, h2⟩ := h
  obtain ⟨v, ps, hrun, hv⟩ := h1.lookup keyed_int Try.underlying38 (zero_bool w) (plainElem_bool Try.underlying4 false) (Maps.keyOf_int_mk Try.underlying3 hw)
  rw [h2 x hx] at hv
  have hv2 : v = .bool false := by
    simp only [plainElem, Try.underlying4] at hv
    cases v <;> simp_all
  rw [hrun, hv2]
theorem MapB.put {w' : World} {b n : Nat} {P : Int → Prop} {x : Int} {D : DataW Unit} {v : DataW Unit} (h2 : ∀ z : Int, ¬ P z → D.atKey (.int .i64 z) (.lit (.bool false)) = .lit (.bool false))
    (h1 : w'.ownsMap Try.prog 3 (plainElem Try.prog 4) b (n + 1) (D.put (.int .i64 x) v)) : MapB w' b (n + 1) (fun z => P z ∨ z = x) :=
  ⟨_, h1, fun z hz => by
    rw [Maps.atKey_put_other (fun e => hz (.inr (by cases e; rfl)))]
    exact h2 z fun h => hz (.inl h)⟩
theorem grown_mod {w w' : World} {b : Nat} (h : w.grownBy w' (some b)) : Mod (fun k => k = b) w w' := ⟨h.os, h.tape, h.output, h.size, fun k hk hn => h.block k hk (fun e => hn (Option.some.inj e))⟩
end Go.Proofs.Ytnckccpcpndcmaa
