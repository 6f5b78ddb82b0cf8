/-
  strings.Cut at '/'.
-/
import Derived.Test.YtaenebdppkjhoaaGreatDoorZa3
import Derived.Test.YtaenebdppkjhoaaGreatDoorZa4
namespace Go.Proofs.YtaenebdppkjhoaaGreatDoor
set_option maxRecDepth 20000
open Go.RowKit

theorem idxs_at (s : ByteArray) (w : World) : Calls Tryz.prog 165 #[.string s, .int .u8 47] w fun e w' => e = .returned (.int .i64 (Lib.indexByte s.data.toList 47)) ∧ w' = w := by
  go_enter Tryz.func165, Tryz.ntmps165
  go_wp2
  rw [run_callFunc_extern Tryz.func193 (by kernel_rfl) (by kernel_rfl) (by kernel_rfl) (e := Extern.BytealgIndexByte.indexByte) (by kernel_rfl), Lib.run_indexByteString]
  simp only [Result.andThen]
  rw [Oper.upon_value]
  go_wp2
  go_ret
  exact ⟨rfl, rfl⟩

set_option maxHeartbeats 1000000 in
set_option maxRecDepth 20000 in
theorem idx_at (s : ByteArray) (w : World) : Calls Tryz.prog 119 #[.string s, .string ⟨#[47]⟩] w fun e w' => e = .returned (.int .i64 (Lib.indexByte s.data.toList 47)) ∧ w' = w := by
  have hi := idxs_at s w
  obtain ⟨R, hR⟩ : ∃ R, Lib.indexByte s.data.toList 47 = R := ⟨_, rfl⟩
  rw [hR] at hi ⊢
  have Hi := Lib.hid hi
  have HR := Lib.hid hR
  clear hi hR
  cases he : ([47] : List UInt8) == s.toList with
  | true =>
    go_enter Tryz.func119, Tryz.ntmps119
    go_wp2_with fail
    go_ret
    refine ⟨?_, rfl⟩
    have hs : s.data.toList = [47] := by rw [← ByteArray.toList_eq]; exact (beq_iff_eq.1 he).symm
    have h0 : R = 0 := by rw [← HR.out, hs]; rfl
    rw [h0]
    rfl
  | false =>
    go_enter Tryz.func119, Tryz.ntmps119
    go_wp2_with fail
    refine Hi.out.mono ?_
    rintro e w' ⟨rfl, rfl⟩
    go_wp2
    go_ret
    exact ⟨rfl, rfl⟩

theorem indexByte_cases : ∀ (l : List UInt8) (c : UInt8), Lib.indexByte l c = -1 ∨ ∃ i : Nat, Lib.indexByte l c = i
  | [], c => .inl rfl
  | b :: l, c => by
    rw [Lib.indexByte]
    split
    · exact .inr ⟨0, rfl⟩
    · rcases indexByte_cases l c with h | ⟨i, h⟩
      · rw [h]; exact .inl rfl
      · rw [h]
        split
        · exact .inl rfl
        · exact .inr ⟨i + 1, by omega⟩

theorem indexByte_lt : ∀ {l : List UInt8} {c : UInt8} {i : Nat}, Lib.indexByte l c = i → i < l.length
  | [], c, i, h => by simp [Lib.indexByte] at h
  | b :: l, c, i, h => by
    rw [Lib.indexByte] at h
    rw [List.length_cons]
    split at h
    · omega
    · rcases indexByte_cases l c with h1 | ⟨k, h1⟩
      · rw [h1] at h
        have h : (-1 : Int) = i := h
        omega
      · have := indexByte_lt h1
        rw [h1] at h
        split at h <;> omega

set_option maxHeartbeats 1000000 in
theorem cuts_yes (s : ByteArray) (hs : s.size ≤ 9223372036854775807) (I : Nat) (hI : Lib.indexByte s.data.toList 47 = I) (w : World) :
    Calls Tryz.prog 89 #[.string s, .string ⟨#[47]⟩] w fun e w' => e = .returned (.tuple #[.string (s.extract 0 I), .string (s.extract (I + 1) s.size), .bool true]) ∧ Mod (fun _ => False) w w' := by
  have hi := idx_at s w
  rw [hI] at hi
  have hlt : I < s.size := indexByte_lt hI
  have hlt' : (I : Int) < s.size := by omega
  have hs' : (s.size : Int) ≤ 9223372036854775807 := by omega
  have Hi := Lib.hid hi
  clear hi hI hs
  go_enter Tryz.func89, Tryz.ntmps89
  go_wp2_with fail
  refine Hi.out.mono ?_
  rintro e w' ⟨rfl, rfl⟩
  go_wp2_with fail
  have hi2 : (I : Int) ≤ s.size := by omega
  have hi3 : (I : Int) + 1 ≤ s.size := by omega
  have hw3 : IntKind.i64.wrap ((I : Int) + 1) = (I : Int) + 1 := by rw [IntKind.wrap_i64]; omega
  have hb3 : (0 : Int) ≤ (I : Int) + 1 := by omega
  have htn2 : ((I : Int) + 1).toNat = I + 1 := by omega
  have hS : (fun _ : World => True) w'.drew := trivial
  refine wp_region_script [.rd 0, .rd 1, .rd 2, .rd 3, .rd 4, .rd 5, .rd 6, .rd 7, .rd 8, .rd 9, .rd 10, .rd 11] [] (fun _ : World => True) (by kernel_rfl) (by kernel_rfl) (fun _ _ d _ _ h => (by cases d <;> exact h)) ?_
  refine walk_rd rfl ?_ (fun _ => hS) ?_ (fun w0 h0 => ?_) (fun K hK => ?_)
  · (try simp only [List.getElem_toArray]); (try simp only [List.getElem_cons_succ]); (try simp only [List.getElem_cons_zero])
    go_simp; done
  rotate_left
  · (try simp only [List.getElem_toArray]); (try simp only [List.getElem_cons_succ]); (try simp only [List.getElem_cons_zero])
    first
      | (obtain - := h0 rfl; clear h0; go_simp; with_reducible rfl)
      | (clear h0; go_simp; with_reducible rfl)
  (try simp only [List.getElem_toArray]); (try simp only [List.getElem_cons_succ]); (try simp only [List.getElem_cons_zero])
  go_simp; refine hK _ ?_; clear hK K
  refine walk_rd rfl ?_ (fun _ => hS) ?_ (fun w0 h0 => ?_) (fun K hK => ?_)
  · (try simp only [List.getElem_toArray]); (try simp only [List.getElem_cons_succ]); (try simp only [List.getElem_cons_zero])
    go_simp; done
  rotate_left
  · (try simp only [List.getElem_toArray]); (try simp only [List.getElem_cons_succ]); (try simp only [List.getElem_cons_zero])
    first
      | (obtain - := h0 rfl; clear h0; go_simp; with_reducible rfl)
      | (clear h0; go_simp; with_reducible rfl)
  (try simp only [List.getElem_toArray]); (try simp only [List.getElem_cons_succ]); (try simp only [List.getElem_cons_zero])
  go_simp; refine hK _ ?_; clear hK K
  refine walk_rd rfl ?_ (fun _ => hS) ?_ (fun w0 h0 => ?_) (fun K hK => ?_)
  · (try simp only [List.getElem_toArray]); (try simp only [List.getElem_cons_succ]); (try simp only [List.getElem_cons_zero])
    go_simp; done
  rotate_left
  · (try simp only [List.getElem_toArray]); (try simp only [List.getElem_cons_succ]); (try simp only [List.getElem_cons_zero])
    first
      | (obtain - := h0 rfl; clear h0; go_simp; with_reducible rfl)
      | (clear h0; go_simp; with_reducible rfl)
  (try simp only [List.getElem_toArray]); (try simp only [List.getElem_cons_succ]); (try simp only [List.getElem_cons_zero])
  go_simp; refine hK _ ?_; clear hK K
  refine walk_rd rfl ?_ (fun _ => hS) ?_ (fun w0 h0 => ?_) (fun K hK => ?_)
  · (try simp only [List.getElem_toArray]); (try simp only [List.getElem_cons_succ]); (try simp only [List.getElem_cons_zero])
    go_simp; done
  rotate_left
  · (try simp only [List.getElem_toArray]); (try simp only [List.getElem_cons_succ]); (try simp only [List.getElem_cons_zero])
    first
      | (obtain - := h0 rfl; clear h0; go_simp; with_reducible rfl)
      | (clear h0; go_simp; with_reducible rfl)
  (try simp only [List.getElem_toArray]); (try simp only [List.getElem_cons_succ]); (try simp only [List.getElem_cons_zero])
  go_simp; refine hK _ ?_; clear hK K
  refine walk_rd rfl ?_ (fun _ => hS) ?_ (fun w0 h0 => ?_) (fun K hK => ?_)
  · (try simp only [List.getElem_toArray]); (try simp only [List.getElem_cons_succ]); (try simp only [List.getElem_cons_zero])
    go_simp; done
  rotate_left
  · (try simp only [List.getElem_toArray]); (try simp only [List.getElem_cons_succ]); (try simp only [List.getElem_cons_zero])
    first
      | (obtain - := h0 rfl; clear h0; go_simp; with_reducible rfl)
      | (clear h0; go_simp; with_reducible rfl)
  (try simp only [List.getElem_toArray]); (try simp only [List.getElem_cons_succ]); (try simp only [List.getElem_cons_zero])
  go_simp; refine hK _ ?_; clear hK K
  refine walk_rd rfl ?_ (fun _ => hS) ?_ (fun w0 h0 => ?_) (fun K hK => ?_)
  · (try simp only [List.getElem_toArray]); (try simp only [List.getElem_cons_succ]); (try simp only [List.getElem_cons_zero])
    go_simp; done
  rotate_left
  · (try simp only [List.getElem_toArray]); (try simp only [List.getElem_cons_succ]); (try simp only [List.getElem_cons_zero])
    first
      | (obtain - := h0 rfl; clear h0; go_simp; with_reducible rfl)
      | (clear h0; go_simp; with_reducible rfl)
  (try simp only [List.getElem_toArray]); (try simp only [List.getElem_cons_succ]); (try simp only [List.getElem_cons_zero])
  go_simp; refine hK _ ?_; clear hK K
  refine walk_rd rfl ?_ (fun _ => hS) ?_ (fun w0 h0 => ?_) (fun K hK => ?_)
  · (try simp only [List.getElem_toArray]); (try simp only [List.getElem_cons_succ]); (try simp only [List.getElem_cons_zero])
    go_simp; done
  rotate_left
  · (try simp only [List.getElem_toArray]); (try simp only [List.getElem_cons_succ]); (try simp only [List.getElem_cons_zero])
    first
      | (obtain - := h0 rfl; clear h0; go_simp; with_reducible rfl)
      | (clear h0; go_simp; with_reducible rfl)
  (try simp only [List.getElem_toArray]); (try simp only [List.getElem_cons_succ]); (try simp only [List.getElem_cons_zero])
  go_simp; refine hK _ ?_; clear hK K
  refine walk_rd rfl ?_ (fun _ => hS) ?_ (fun w0 h0 => ?_) (fun K hK => ?_)
  · (try simp only [List.getElem_toArray]); (try simp only [List.getElem_cons_succ]); (try simp only [List.getElem_cons_zero])
    go_simp; done
  rotate_left
  · (try simp only [List.getElem_toArray]); (try simp only [List.getElem_cons_succ]); (try simp only [List.getElem_cons_zero])
    first
      | (obtain - := h0 rfl; clear h0; go_simp; with_reducible rfl)
      | (clear h0; go_simp; with_reducible rfl)
  (try simp only [List.getElem_toArray]); (try simp only [List.getElem_cons_succ]); (try simp only [List.getElem_cons_zero])
  go_simp; refine hK _ ?_; clear hK K
  refine walk_rd rfl ?_ (fun _ => hS) ?_ (fun w0 h0 => ?_) (fun K hK => ?_)
  · (try simp only [List.getElem_toArray]); (try simp only [List.getElem_cons_succ]); (try simp only [List.getElem_cons_zero])
    go_simp; done
  rotate_left
  · (try simp only [List.getElem_toArray]); (try simp only [List.getElem_cons_succ]); (try simp only [List.getElem_cons_zero])
    first
      | (obtain - := h0 rfl; clear h0; go_simp; with_reducible rfl)
      | (clear h0; go_simp; with_reducible rfl)
  (try simp only [List.getElem_toArray]); (try simp only [List.getElem_cons_succ]); (try simp only [List.getElem_cons_zero])
  go_simp; refine hK _ ?_; clear hK K
  refine walk_rd rfl ?_ (fun _ => hS) ?_ (fun w0 h0 => ?_) (fun K hK => ?_)
  · (try simp only [List.getElem_toArray]); (try simp only [List.getElem_cons_succ]); (try simp only [List.getElem_cons_zero])
    go_simp; done
  rotate_left
  · (try simp only [List.getElem_toArray]); (try simp only [List.getElem_cons_succ]); (try simp only [List.getElem_cons_zero])
    first
      | (obtain - := h0 rfl; clear h0; go_simp; with_reducible rfl)
      | (clear h0; go_simp; with_reducible rfl)
  (try simp only [List.getElem_toArray]); (try simp only [List.getElem_cons_succ]); (try simp only [List.getElem_cons_zero])
  go_simp; refine hK _ ?_; clear hK K
  refine walk_rd rfl ?_ (fun _ => hS) ?_ (fun w0 h0 => ?_) (fun K hK => ?_)
  · (try simp only [List.getElem_toArray]); (try simp only [List.getElem_cons_succ]); (try simp only [List.getElem_cons_zero])
    go_simp; done
  rotate_left
  · (try simp only [List.getElem_toArray]); (try simp only [List.getElem_cons_succ]); (try simp only [List.getElem_cons_zero])
    first
      | (obtain - := h0 rfl; clear h0; go_simp; with_reducible rfl)
      | (clear h0; go_simp; with_reducible rfl)
  (try simp only [List.getElem_toArray]); (try simp only [List.getElem_cons_succ]); (try simp only [List.getElem_cons_zero])
  go_simp; refine hK _ ?_; clear hK K
  refine walk_rd rfl ?_ (fun _ => hS) ?_ (fun w0 h0 => ?_) (fun K hK => ?_)
  · (try simp only [List.getElem_toArray]); (try simp only [List.getElem_cons_succ]); (try simp only [List.getElem_cons_zero])
    go_simp; done
  rotate_left
  · (try simp only [List.getElem_toArray]); (try simp only [List.getElem_cons_succ]); (try simp only [List.getElem_cons_zero])
    first
      | (obtain - := h0 rfl; clear h0; go_simp; with_reducible rfl)
      | (clear h0; go_simp; with_reducible rfl)
  (try simp only [List.getElem_toArray]); (try simp only [List.getElem_cons_succ]); (try simp only [List.getElem_cons_zero])
  go_simp; refine hK _ ?_; clear hK K
  refine walk_nil ?_
  go_wp2
  go_ret3
  exact ⟨rfl, (Mod.refl _ _).drew⟩
set_option maxHeartbeats 1000000 in
theorem cuts_no (s : ByteArray) (hI : Lib.indexByte s.data.toList 47 = -1) (w : World) :
    Calls Tryz.prog 89 #[.string s, .string ⟨#[47]⟩] w fun e w' => e = .returned (.tuple #[.string s, .string ⟨#[]⟩, .bool false]) ∧ Mod (fun _ => False) w w' := by
  have hi := idx_at s w
  rw [hI] at hi
  have Hi := Lib.hid hi
  clear hi hI
  go_enter Tryz.func89, Tryz.ntmps89
  go_wp2_with fail
  refine Hi.out.mono ?_
  rintro e w' ⟨rfl, rfl⟩
  go_wp2
  go_ret3
  exact ⟨rfl, Mod.refl _ _⟩

/-- What stands ahead of the first '/', what behind it, and whether there is one. -/
def cutS (s : ByteArray) : ByteArray × ByteArray × Bool := if 0 ≤ Lib.indexByte s.data.toList 47 then (s.extract 0 (Lib.indexByte s.data.toList 47).toNat, s.extract ((Lib.indexByte s.data.toList 47).toNat + 1) s.size, true) else (s, ⟨#[]⟩, false)
theorem cut_at (s : ByteArray) (hs : s.size ≤ 9223372036854775807) (w : World) :
    Calls Tryz.prog 53 #[.string s, .string ⟨#[47]⟩] w fun e w' => e = .returned (.tuple #[.string (cutS s).1, .string (cutS s).2.1, .bool (cutS s).2.2]) ∧ Mod (fun _ => False) w w' := by
  have hc : Calls Tryz.prog 89 #[.string s, .string ⟨#[47]⟩] w fun e w' => e = .returned (.tuple #[.string (cutS s).1, .string (cutS s).2.1, .bool (cutS s).2.2]) ∧ Mod (fun _ => False) w w' := by
    rcases indexByte_cases s.data.toList 47 with h | ⟨I, h⟩
    · have e : cutS s = (s, ⟨#[]⟩, false) := by unfold cutS; rw [h]; rfl
      rw [e]
      exact cuts_no s h w
    · have e : cutS s = (s.extract 0 I, s.extract (I + 1) s.size, true) := by
        unfold cutS
        rw [h, if_pos (by omega)]
        rfl
      rw [e]
      exact cuts_yes s hs I h w
  generalize cutS s = C at hc ⊢
  have Hc := Lib.hid hc
  clear hc hs
  go_enter Tryz.func53, Tryz.ntmps53
  go_wp2_with fail
  refine Hc.out.mono ?_
  rintro e w' ⟨rfl, hm⟩
  have Hm := Lib.hid hm
  clear hm
  go_wp2
  go_ret3
  exact ⟨rfl, Hm.out⟩

/-- The rest is shorter. -/
theorem cut_rest {s : ByteArray} (h : (cutS s).2.2 = true) : (cutS s).2.1.size < s.size := by
  unfold cutS at h ⊢
  split at h
  · rename_i h0
    rw [if_pos h0]
    rcases indexByte_cases s.data.toList 47 with h1 | ⟨I, h1⟩
    · omega
    · have hlt : I < s.size := indexByte_lt h1
      rw [h1]
      show (s.extract (I + 1) s.size).size < s.size
      rw [ByteArray.size_extract]
      omega
  · cases h
theorem cut_sum {s : ByteArray} (h : (cutS s).2.2 = true) : (cutS s).1.size + 1 + (cutS s).2.1.size = s.size := by
  unfold cutS at h ⊢
  split at h
  · rename_i h0
    rw [if_pos h0]
    rcases indexByte_cases s.data.toList 47 with h1 | ⟨I, h1⟩
    · omega
    · have hlt : I < s.size := indexByte_lt h1
      rw [h1]
      show (s.extract 0 I).size + 1 + (s.extract (I + 1) s.size).size = s.size
      rw [ByteArray.size_extract, ByteArray.size_extract]
      omega
  · cases h
theorem cut_size (s : ByteArray) : (cutS s).1.size ≤ s.size ∧ (cutS s).2.1.size ≤ s.size := by
  unfold cutS
  split
  · constructor
    · show (s.extract _ _).size ≤ _
      rw [ByteArray.size_extract]
      omega
    · show (s.extract _ _).size ≤ _
      rw [ByteArray.size_extract]
      omega
  · exact ⟨Nat.le_refl _, Nat.zero_le _⟩
end Go.Proofs.YtaenebdppkjhoaaGreatDoor
