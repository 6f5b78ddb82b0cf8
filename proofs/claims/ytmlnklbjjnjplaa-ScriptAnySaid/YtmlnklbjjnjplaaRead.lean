/-
  Read: a call over a new Reader, its panics turned into false.
-/
import Derived.Test.YtmlnklbjjnjplaaRdev
import Derived.Defers
import Derived.Recover
namespace Go.Proofs.Ytmlnklbjjnjplaa
open Go.RowKit

set_option maxRecDepth 20000 in
theorem catch_short (k : Nat) (w : World) (hk : w.heap[k]? = some (.cells #[.bool false] 4 (0, 0))) :
    CallsD Try.prog 17 #[.pointer (some ⟨k, 0, none⟩)] (.panicking short) w fun e u' w' =>
      e = .returned (.tuple #[]) ∧ u' = .panicking [{ v := .iface 60 (.agg #[]), recovered := true }] ∧ Mod (fun j => j = k) w w' ∧ w'.heap[k]? = some (.cells #[.bool false] 4 (0, 0)) := by
  have hc : w.cell? ⟨k, 0, none⟩ = some (.bool false) := cell_of hk rfl
  have hf : w.frozen? ⟨k, 0, none⟩ = false := fr_of hk
  have hkl : k < w.heap.size := (Array.getElem?_eq_some_iff.1 hk).1
  have hkn : w.heap.size ≠ k := by omega
  have hmk : Mod (fun j => j = k) w ((w.setCell ⟨k, 0, none⟩ (.bool false)).alloc (.cells #[] 60)) := ((Mod.refl (fun j => j = k) w).setCell (fun _ => rfl) _).alloc _
  have hgk : ((w.setCell ⟨k, 0, none⟩ (.bool false)).alloc (.cells #[] 60)).heap[k]? = some (.cells #[.bool false] 4 (0, 0)) := heap_old (heap_set hk)
  have Hmk := Lib.hid hmk
  have Hgk := Lib.hid hgk
  have Hk := Lib.hid hk
  clear hmk hgk hk
  have hta : (Instr.typeAssert (.iface 60 (.agg #[])) 20 60 true).run Try.prog w = .ok (.tuple #[.agg #[], .bool true]) w := by simp [Instr.typeAssert, run_underlying Try.underlying60, go_sem, Result.andThen]
  refine callsD_of_wpS Try.func17 rfl fun c₀ cs hu => ?_
  apply wpS_seq
  apply wpS_region
  simp [wpOpsS, go_sem, recoverD, hu, short, Try.ntmps17, Exit.thenS]
  simp only [Array.replicate_succ, Array.replicate_zero, List.push_toArray, List.append_toArray, List.nil_append, List.cons_append, List.setIfInBounds_toArray, List.set_cons_zero, List.set_cons_succ]
  refine wpS_of_wp ?_
  go_wp2_with fail
  exact ⟨rfl, _, rfl, _, by simp [results, Try.results17], rfl, rfl, Hmk.out, Hgk.out⟩

theorem catch_none (k : Nat) (w : World) : CallsD Try.prog 17 #[.pointer (some ⟨k, 0, none⟩)] .returning w fun e u' w' => e = .returned (.tuple #[]) ∧ u' = .returning ∧ w' = w := by
  refine callsD_of_wpS Try.func17 rfl fun c₀ cs hu => ?_
  apply wpS_seq
  apply wpS_region
  simp [wpOpsS, go_sem, recoverD, hu, Try.ntmps17, Exit.thenS]
  simp only [Array.replicate_succ, Array.replicate_zero, List.push_toArray, List.append_toArray, List.nil_append, List.cons_append, List.setIfInBounds_toArray, List.set_cons_zero, List.set_cons_succ]
  refine wpS_of_wp ?_
  go_wp2_with fail
  cases c₀
  simp_all [bodyPostS, results, Try.results17]

/-- A call over a new Reader of these bytes: B: the call, k: where the result lies. -/
theorem read_at (v : Value) (G : Nat) (bs : List UInt8) (F : FuncId) (cap : Array Value) (w : World) (hb : BytesAt w G v bs) (hG : G < w.heap.size) (hF : ∀ args w, (callFunc F args).run Try.prog w = .ok (.enter F args) w) (Good : Nat → Bool → World → Prop)
    (hcall : ∀ r k w1, Mod (fun _ => False) w w1 → w.heap.size ≤ k → w.heap.size ≤ r → k ≠ r → k < w1.heap.size → Rdr w1 r G bs → w1.heap[k]? = some (.cells #[.bool false] 4 (0, 0)) →
      Calls Try.prog F (#[.pointer (some ⟨r, 0, none⟩)] ++ cap) w1 fun e w2 => w2.heap[k]? = some (.cells #[.bool false] 4 (0, 0)) ∧
        ((e = .panicked short ∧ Good k false w2) ∨ (∃ t, e = .returned (.tuple #[]) ∧ Rdr w2 r G t ∧ Good k t.isEmpty w2))) :
    Calls Try.prog 9 #[v, .func (.func F) #[] cap] w fun e w' => ∃ ok w2 k, e = .returned (.bool ok) ∧ Good k ok w2 ∧ w.heap.size ≤ k ∧ Mod (fun j => j = k) w2 w' := by
  have hmf : ∀ (fn : Fn) (first cap : Array Value) (w : World), (Instr.makeFunc fn first cap).run Try.prog w = .ok (.func fn first cap) w := fun _ _ _ _ => rfl
  obtain ⟨a, c, rfl, -⟩ := hb.ex
  obtain ⟨wb, hwb⟩ : ∃ wb : World, wb = (w.alloc (.cells #[.bool false] 4)).alloc (.cells #[.slice a bs.length c] 58) := ⟨_, rfl⟩
  have hmb : Mod (fun _ => False) w wb := hwb ▸ ((Mod.refl (fun _ => False) w).alloc _).alloc _
  have hk : wb.heap[w.heap.size]? = some (.cells #[.bool false] 4 (0, 0)) := hwb ▸ heap_old (heap_alloc_new w _)
  have hr : wb.heap[w.heap.size + 1]? = some (.cells #[.slice a bs.length c] 58 (0, 0)) := hwb ▸ heap_alloc2 w _ _
  have hrd : Rdr wb (w.heap.size + 1) G bs := ⟨by omega, _, hr, hb.mod hmb (fun _ h => h)⟩
  have hc := hcall (w.heap.size + 1) w.heap.size wb hmb (Nat.le_refl _) (by omega) (by omega) (Array.getElem?_eq_some_iff.1 hk).1 hrd hk
  have Hc := Lib.hid hc
  have Hwb := Lib.hid hwb
  clear hc hcall hwb hrd hmb hk hr hb
  go_enter_defers Try.func9, Try.ntmps9
  go_wp2_with fail
  rw [← Hwb.out]
  refine Hc.out.mono ?_
  rintro e w2 ⟨hk2, ⟨rfl, hgood⟩ | ⟨t, rfl, hr2, hgood⟩⟩
  · refine leaves_cons (f := 17) (args := #[.pointer (some ⟨w.heap.size, 0, none⟩)]) (by simp) (by simp [go_sem]) ?_
    refine (catch_short w.heap.size w2 hk2).mono ?_
    rintro e u' w3 ⟨rfl, rfl, hm3, hk3⟩
    have hc3 : w3.cell? ⟨w.heap.size, 0, none⟩ = some (.bool false) := cell_of hk3 rfl
    simp [Leaves, settle, results, Try.results9, go_sem, hc3]
    exact ⟨w2, w.heap.size, hgood, Nat.le_refl _, hm3⟩
  · obtain ⟨E, hE⟩ : ∃ E, t.isEmpty = E := ⟨_, rfl⟩
    rw [hE] at hgood
    have HE := Lib.hid hE
    clear hE
    have Hgood := Lib.hid hgood
    obtain ⟨v2, hrr, hb2⟩ := hr2.ex
    obtain ⟨a2, c2, rfl, -⟩ := hb2.ex
    have cr : w2.cell? ⟨w.heap.size + 1, 0, none⟩ = some (.slice a2 t.length c2) := cell_of hrr rfl
    have ck : w2.cell? ⟨w.heap.size, 0, none⟩ = some (.bool false) := cell_of hk2 rfl
    have fk : w2.frozen? ⟨w.heap.size, 0, none⟩ = false := fr_of hk2
    have Hk2 := Lib.hid hk2
    clear hr2 hrr hb2 hgood hk2
    go_wp2_with fail
    refine leaves_cons (f := 17) (args := #[.pointer (some ⟨w.heap.size, 0, none⟩)]) (by simp) (by simp [go_sem]) ?_
    refine (catch_none w.heap.size _).mono ?_
    rintro e u' w3 ⟨rfl, rfl, rfl⟩
    have ht : ((t.length : Int) == 0) = E := by
      rw [← HE.out]
      cases t with
      | nil => rfl
      | cons x t => rw [List.length_cons]; exact beq_eq_false_iff_ne.2 (by omega)
    have hm : Mod (fun j => j = w.heap.size) w2 (w2.setCell ⟨w.heap.size, 0, none⟩ (.bool ((t.length : Int) == 0))) := (Mod.refl (fun j => j = w.heap.size) w2).setCell (fun _ => rfl) _
    have hc3 : (w2.setCell ⟨w.heap.size, 0, none⟩ (.bool ((t.length : Int) == 0))).cell? ⟨w.heap.size, 0, none⟩ = some (.bool E) := by
      rw [ht]; exact cell_of (heap_set Hk2.out) rfl
    have Hm := Lib.hid hm
    clear hm
    simp [Leaves, settle, results, Try.results9, go_sem, hc3]
    cases E with
    | false => exact .inl ⟨rfl, w2, w.heap.size, Hgood.out, Nat.le_refl _, Hm.out⟩
    | true => exact .inr ⟨rfl, w2, w.heap.size, Hgood.out, Nat.le_refl _, Hm.out⟩
end Go.Proofs.Ytmlnklbjjnjplaa
