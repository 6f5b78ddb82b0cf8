/-
  LinkRooms returns true for every input, and leaves its argument as it was. It bears no condition.
-/
import Derived.Test.YtdlmadjlhiblmaaRow
import Derived.Deep.Grids
import Derived.Test.YtdlmadjlhiblmaaRooms
namespace Go.Proofs.Ytdlmadjlhiblmaa.linkRooms
open Go.ChangeShapes Go.WideShapes Go.ChangeAt Go.RowKit

set_option maxRecDepth 100000 in
theorem lifted (os : Os) (started : os.Started) (H : Type) (enc : TypeId × Value → H) :
    ReturnsInHanded {} Try.checked os 5 .any (Rows.linkRoomsSpec.pre6 enc Try.prog Try.f5 Rows.linkRoomsRow.domain false) (Rows.linkRoomsSpec.post enc Try.prog Try.f5 false true false false) := by
  refine returnsInHanded_of_change (C := Try.checked) own_knob started (by kernel_rfl) Try.func5
    (ChangeSpec.witness6 (enc := enc) (C := Try.checked) false ⟨#[], #[.slice none 0 0], []⟩ 8 (by kernel_rfl) (by kernel_rfl) (by kernel_rfl) (by kernel_rfl)) ?_
  intro W base args ds gs before hval0 hW hcnd _
  have hval : ∀ (j : Nat) t v, Try.f5.params[j]? = some t → args[j]? = some v → Value.okWide Try.prog W .any base t v := hval0
  have hW' := hW
  obtain ⟨p, q, hA0, hV, rfl, hfz, hnd⟩ := hW
  have hA : DataW.TrodAll enc Try.prog W 0 (fun _ => true) true Try.f5.params.toList args.toList ds p := hA0
  rw [Try.params5] at hA hval
  obtain ⟨v0, vs0, d0, ds0, p0, q0, hargs, rfl, rfl, h0, r0⟩ := trodAll_cons hA
  obtain ⟨rfl, rfl, rfl⟩ := trodAll_nil r0
  obtain rfl : args = #[v0] := by cases args; simp_all
  obtain ⟨rfl, rfl⟩ := trodVars_none hV
  simp only [List.append_nil] at hW' hA0
  obtain ⟨A, n, cap, rfl⟩ := okWide_slice Try.underlying43 (hval 0 43 v0 rfl rfl)
  obtain ⟨Z, hn, hZ⟩ : ∃ Z : Nat → Bool, n ≤ maxLen ∧ ∀ i, i < n → ∃ a : Addr, A = some a ∧ W.cell? (a.add i) = some (.bool (Z i)) := by
    obtain ⟨m, hm⟩ := h0
    rcases Go.Deep.open_bools Try.underlying43 Try.underlying4 (by kernel_rfl) hm with ⟨hcs, -⟩ | ⟨a, len, cap, B, hcs, -, hlc, hcm, -, hcell⟩
    · have hcs : [Value.slice A n cap] = _ := hcs
      simp only [List.cons.injEq, and_true, Value.slice.injEq] at hcs
      obtain ⟨rfl, rfl, rfl⟩ := hcs
      exact ⟨fun _ => false, Nat.zero_le _, fun i hi => absurd hi (Nat.not_lt_zero _)⟩
    · have hcs : [Value.slice A n _] = _ := hcs
      simp only [List.cons.injEq, and_true, Value.slice.injEq] at hcs
      obtain ⟨rfl, rfl, rfl⟩ := hcs
      exact ⟨B, Nat.le_trans hlc hcm, fun i hi => ⟨a, rfl, hcell i (Nat.lt_of_lt_of_le hi hlc)⟩⟩
  clear hval0
  refine (rooms_walk A n cap hn Z W hZ).mono fun e W' ⟨he, hg⟩ => ?_
  subst he
  exact ⟨_, rfl, post_same hW' hA0 (by kernel_rfl) rfl (fun _ _ _ => trodAll_cons_mk (shut_bool Try.underlying4 _) trodAll_mk0) (fun _ => rfl) hg⟩

theorem over : Rows.linkRoomsRow.holds Try.pinned (OpenSpec.ofChange Rows.linkRoomsSpec) :=
  OpenClaim.holds_of_wide 5 Try.f5 rfl rfl rfl rfl rfl rfl rfl ⟨rfl, rfl, rfl, rfl, rfl⟩ rfl rfl rfl rfl rfl (by kernel_rfl) Try.func5 (by kernel_rfl)
    (of_decide_eq_true (by kernel_rfl)) (by unfold Func.isWrapper; first | (rw [if_pos (by decide +kernel)]; kernel_rfl) | (rw [if_neg (by decide +kernel)]; exact ⟨rfl, rfl⟩))
    (fun os started H enc _ => lifted os started H enc)

theorem proved : Rows.LinkRoomsSaid := over
#print axioms proved
end Go.Proofs.Ytdlmadjlhiblmaa.linkRooms
