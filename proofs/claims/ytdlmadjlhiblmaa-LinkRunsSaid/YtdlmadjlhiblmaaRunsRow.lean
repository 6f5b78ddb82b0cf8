/-
  LinkRuns returns true for every input, and leaves its argument as it was. It bears no condition.
-/
import Derived.Test.YtdlmadjlhiblmaaRow
import Derived.Deep.Slices
import Derived.Test.YtdlmadjlhiblmaaRuns
namespace Go.Proofs.Ytdlmadjlhiblmaa.linkRuns
open Go.ChangeShapes Go.WideShapes Go.ChangeAt Go.RowKit

set_option maxRecDepth 100000 in
theorem lifted (os : Os) (started : os.Started) (H : Type) (enc : TypeId × Value → H) :
    ReturnsInHanded {} Try.checked os 7 .any (Rows.linkRunsSpec.pre6 enc Try.prog Try.f7 Rows.linkRunsRow.domain false) (Rows.linkRunsSpec.post enc Try.prog Try.f7 false true false false) := by
  refine returnsInHanded_of_change (C := Try.checked) own_knob started (by kernel_rfl) Try.func7
    (ChangeSpec.witness6 (enc := enc) (C := Try.checked) false ⟨#[], #[.slice none 0 0], []⟩ 8 (by kernel_rfl) (by kernel_rfl) (by kernel_rfl) (by kernel_rfl)) ?_
  intro W base args ds gs before hval0 hW hcnd _
  have hval : ∀ (j : Nat) t v, Try.f7.params[j]? = some t → args[j]? = some v → Value.okWide Try.prog W .any base t v := hval0
  have hW' := hW
  obtain ⟨p, q, hA0, hV, rfl, hfz, hnd⟩ := hW
  have hA : DataW.TrodAll enc Try.prog W 0 (fun _ => true) true Try.f7.params.toList args.toList ds p := hA0
  rw [Try.params7] at hA hval
  obtain ⟨v0, vs0, d0, ds0, p0, q0, hargs, rfl, rfl, h0, r0⟩ := trodAll_cons hA
  obtain ⟨rfl, rfl, rfl⟩ := trodAll_nil r0
  obtain rfl : args = #[v0] := by cases args; simp_all
  obtain ⟨rfl, rfl⟩ := trodVars_none hV
  simp only [List.append_nil] at hW' hA0
  obtain ⟨A, n, cap, rfl⟩ := okWide_slice Try.underlying46 (hval 0 46 v0 rfl rfl)
  obtain ⟨Z, hn, hZ⟩ : ∃ Z : Nat → Int, n ≤ maxLen ∧ ∀ i, i < n → ∃ a : Addr, A = some a ∧ W.cell? (a.add i) = some (.int .i64 (Z i)) ∧ -9223372036854775808 ≤ Z i ∧ Z i ≤ 9223372036854775807 := by
    obtain ⟨m, hm⟩ := h0
    rcases Go.Deep.open_slice1 Try.underlying46 (by kernel_rfl) hm with ⟨hcs, -⟩ | ⟨a, len, cap, mm, nn, V, D, Pl, hcs, -, hlc, hcm, hmm, -, hcell⟩
    · have hcs : [Value.slice A n cap] = _ := hcs
      simp only [List.cons.injEq, and_true, Value.slice.injEq] at hcs
      obtain ⟨rfl, rfl, rfl⟩ := hcs
      exact ⟨fun _ => 0, Nat.zero_le _, fun i hi => absurd hi (Nat.not_lt_zero _)⟩
    · have hcs : [Value.slice A n _] = _ := hcs
      simp only [List.cons.injEq, and_true, Value.slice.injEq] at hcs
      obtain ⟨rfl, rfl, rfl⟩ := hcs
      simp only [if_true] at hmm
      subst hmm
      have hall : ∀ i, i < n → ∃ z : Int, V i = .int .i64 z ∧ -9223372036854775808 ≤ z ∧ z ≤ 9223372036854775807 := fun i hi => by
        obtain ⟨xs, n1, -, -, -, hxs, hf⟩ := DataW.trod_struct Try.underlying49 (hcell i (Nat.lt_of_lt_of_le hi hlc)).2
        have h1 := hf 0 _ rfl
        have h2 : xs[0]? ≠ none := by
          intro h
          have := List.getElem?_eq_none_iff.1 h
          simp at hxs
          omega
        obtain ⟨y, hy⟩ := Option.ne_none_iff_exists'.1 h2
        rw [hy] at h1
        obtain ⟨z, h3, -, h4⟩ := DataW.trod_int Try.underlying3 h1
        have h5 : V i = .int .i64 z := by simpa [show Try.prog.cellsOf 3 = 1 by kernel_rfl] using h3
        refine ⟨z, h5, ?_⟩
        simpa [Lit.wf, IntKind.min, IntKind.max, IntKind.signed, IntKind.bits] using h4
      refine ⟨fun i => if hi : i < n then (hall i hi).choose else 0, Nat.le_trans hlc hcm, fun i hi => ⟨a, rfl, ?_⟩⟩
      have hh := (hall i hi).choose_spec
      simp only [dif_pos hi]
      exact ⟨(hcell i (Nat.lt_of_lt_of_le hi hlc)).1.trans (congrArg some hh.1), hh.2⟩
  clear hval0
  refine (runs_walk A n cap hn Z W hZ).mono fun e W' ⟨he, hg⟩ => ?_
  subst he
  exact ⟨_, rfl, post_same hW' hA0 (by kernel_rfl) rfl (fun _ _ _ => trodAll_cons_mk (shut_bool Try.underlying4 _) trodAll_mk0) (fun _ => rfl) hg⟩

theorem over : Rows.linkRunsRow.holds Try.pinned (OpenSpec.ofChange Rows.linkRunsSpec) :=
  OpenClaim.holds_of_wide 7 Try.f7 rfl rfl rfl rfl rfl rfl rfl ⟨rfl, rfl, rfl, rfl, rfl⟩ rfl rfl rfl rfl rfl (by kernel_rfl) Try.func7 (by kernel_rfl)
    (of_decide_eq_true (by kernel_rfl)) (by unfold Func.isWrapper; first | (rw [if_pos (by decide +kernel)]; kernel_rfl) | (rw [if_neg (by decide +kernel)]; exact ⟨rfl, rfl⟩))
    (fun os started H enc _ => lifted os started H enc)

theorem proved : Rows.LinkRunsSaid := over
#print axioms proved
end Go.Proofs.Ytdlmadjlhiblmaa.linkRuns
