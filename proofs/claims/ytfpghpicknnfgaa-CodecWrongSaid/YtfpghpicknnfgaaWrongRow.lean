/-
  CodecWrong returns true for every input, and leaves its arguments as they were. It bears no condition.
-/
import Derived.Test.YtfpghpicknnfgaaOpenb
import Derived.Deep.Grids
import Derived.Test.YtfpghpicknnfgaaWrong
namespace Go.Proofs.Ytfpghpicknnfgaa.codecWrong
open Go.ChangeShapes Go.WideShapes Go.ChangeAt Go.RowKit

set_option maxRecDepth 100000 in
theorem lifted (os : Os) (started : os.Started) (H : Type) (enc : TypeId × Value → H) :
    ReturnsInHanded {} Try.checked os 6 .any (Rows.codecWrongSpec.pre6 enc Try.prog Try.f6 Rows.codecWrongRow.domain false) (Rows.codecWrongSpec.post enc Try.prog Try.f6 false true false false) := by
  refine returnsInHanded_of_change (C := Try.checked) own_knob started (by kernel_rfl) Try.func6
    (ChangeSpec.witness6 (enc := enc) (C := Try.checked) false ⟨#[], #[.int .u8 0, .int .u8 0, .int .u64 0], []⟩ 8 (by kernel_rfl) (by kernel_rfl) (by kernel_rfl) (by kernel_rfl)) ?_
  intro W base args ds gs before hval0 hW hcnd _
  have hval : ∀ (j : Nat) t v, Try.f6.params[j]? = some t → args[j]? = some v → Value.okWide Try.prog W .any base t v := hval0
  have hW' := hW
  obtain ⟨p, q, hA0, hV, rfl, hfz, hnd⟩ := hW
  have hA : DataW.TrodAll enc Try.prog W 0 (fun _ => true) true Try.f6.params.toList args.toList ds p := hA0
  rw [Try.params6] at hA hval
  obtain ⟨v0, vs0, d0, ds0, p0, q0, hargs, rfl, rfl, h0, r0⟩ := trodAll_cons hA
  obtain ⟨v1, vs1, d1, ds1, p1, q1, rfl, rfl, rfl, h1, r1⟩ := trodAll_cons r0
  obtain ⟨v2, vs2, d2, ds2, p2, q2, rfl, rfl, rfl, h2, r2⟩ := trodAll_cons r1
  obtain ⟨rfl, rfl, rfl⟩ := trodAll_nil r2
  obtain rfl : args = #[v0, v1, v2] := by cases args; simp_all
  obtain ⟨rfl, rfl⟩ := trodVars_none hV
  simp only [List.append_nil] at hW' hA0
  obtain ⟨x0, rfl⟩ := okWide_int Try.underlying5 (hval 0 5 v0 rfl rfl)
  have hx0 : 0 ≤ x0 ∧ x0 ≤ 255 := by
    obtain ⟨m, hm⟩ := h0
    obtain ⟨z, hz, -, hwf⟩ := DataW.trod_int Try.underlying5 hm
    have hz' : [Value.int .u8 x0] = [Value.int .u8 z] := hz
    cases hz'
    simp only [Lit.wf, Bool.and_eq_true, decide_eq_true_eq] at hwf
    exact ⟨hwf.1, hwf.2⟩
  obtain ⟨x1, rfl⟩ := okWide_int Try.underlying5 (hval 1 5 v1 rfl rfl)
  have hx1 : 0 ≤ x1 ∧ x1 ≤ 255 := by
    obtain ⟨m, hm⟩ := h1
    obtain ⟨z, hz, -, hwf⟩ := DataW.trod_int Try.underlying5 hm
    have hz' : [Value.int .u8 x1] = [Value.int .u8 z] := hz
    cases hz'
    simp only [Lit.wf, Bool.and_eq_true, decide_eq_true_eq] at hwf
    exact ⟨hwf.1, hwf.2⟩
  obtain ⟨x2, rfl⟩ := okWide_int Try.underlying35 (hval 2 35 v2 rfl rfl)
  have hx2 : 0 ≤ x2 ∧ x2 ≤ 18446744073709551615 := by
    obtain ⟨m, hm⟩ := h2
    obtain ⟨z, hz, -, hwf⟩ := DataW.trod_int Try.underlying35 hm
    have hz' : [Value.int .u64 x2] = [Value.int .u64 z] := hz
    cases hz'
    simp only [Lit.wf, Bool.and_eq_true, decide_eq_true_eq] at hwf
    exact ⟨hwf.1, hwf.2⟩
  clear hval0
  have e0 : x0 = ((UInt8.ofNat x0.toNat).toNat : Int) := by simp; omega
  have e1 : x1 = ((UInt8.ofNat x1.toNat).toNat : Int) := by simp; omega
  have e2 : x2 = ((x2.toNat : Nat) : Int) := by omega
  have hwk := wrong_walk (UInt8.ofNat x0.toNat) (UInt8.ofNat x1.toNat) x2.toNat (by omega) W
  rw [← e0, ← e1, ← e2] at hwk
  refine hwk.mono fun e W' ⟨he, hg⟩ => ?_
  subst he
  exact ⟨_, rfl, post_same hW' hA0 (by kernel_rfl) rfl (fun _ _ _ => trodAll_cons_mk (shut_bool Try.underlying4 _) trodAll_mk0) (fun _ => rfl) (hg.below (fun _ _ h => h) (Nat.le_refl _))⟩

theorem over : Rows.codecWrongRow.holds Try.pinned (OpenSpec.ofChange Rows.codecWrongSpec) :=
  OpenClaim.holds_of_wide 6 Try.f6 rfl rfl rfl rfl rfl rfl rfl ⟨rfl, rfl, rfl, rfl, rfl⟩ rfl rfl rfl rfl rfl (by kernel_rfl) Try.func6 (by kernel_rfl)
    (of_decide_eq_true (by kernel_rfl)) (by unfold Func.isWrapper; first | (rw [if_pos (by decide +kernel)]; kernel_rfl) | (rw [if_neg (by decide +kernel)]; exact ⟨rfl, rfl⟩))
    (fun os started H enc _ => lifted os started H enc)

theorem proved : Rows.CodecWrongSaid := over
#print axioms proved
end Go.Proofs.Ytfpghpicknnfgaa.codecWrong
