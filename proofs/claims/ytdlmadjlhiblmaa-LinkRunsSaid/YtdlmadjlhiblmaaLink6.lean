/-
  The contracts of link's small methods.
-/
import Derived.Test.YtdlmadjlhiblmaaLinkc
import Derived.Test.YtdlmadjlhiblmaaPlan
namespace Go.Proofs.Ytdlmadjlhiblmaa
open Go.RowKit

section
variable {w : World} {b : Nat} {F : Nat → Prop} {L : LinkS}

theorem len_at (h : LinkAt w b F L) : Calls Try.prog 17 #[.pointer (some ⟨b, 0, none⟩)] w fun e w' => e = .returned (.int .i64 L.out.length) ∧ w = w' := by
  obtain ⟨vo, vf, va, hL⟩ := h
  obtain ⟨a, c, rfl, _⟩ := hL.out.shape
  have c1 : w.cell? ⟨b, 1, none⟩ = some (.slice a L.out.length c) := cell_of hL.row rfl
  clear hL
  go_enter Try.func17, Try.ntmps17
  go_wp2
  go_ret
  exact ⟨rfl, rfl⟩

theorem epoch_at (h : LinkAt w b F L) : Calls Try.prog 22 #[.pointer (some ⟨b, 0, none⟩)] w fun e w' => e = .returned (.int .i64 L.epoch) ∧ w = w' := by
  obtain ⟨vo, vf, va, hL⟩ := h
  have c1 : w.cell? ⟨b, 0, none⟩ = some (.int .i64 L.epoch) := cell_of hL.row rfl
  clear hL
  go_enter Try.func22, Try.ntmps22
  go_wp2
  go_ret
  exact ⟨rfl, rfl⟩

theorem lost_at (h : LinkAt w b F L) : Calls Try.prog 13 #[.pointer (some ⟨b, 0, none⟩)] w fun e w' => e = .returned (.int .i64 L.lost) ∧ w = w' := by
  obtain ⟨vo, vf, va, hL⟩ := h
  have c1 : w.cell? ⟨b, 6, none⟩ = some (.int .i64 L.lost) := cell_of hL.row rfl
  clear hL
  go_enter Try.func13, Try.ntmps13
  go_wp2
  go_ret
  exact ⟨rfl, rfl⟩

theorem flight_at (h : LinkAt w b F L) (h1 : L.flight.length ≤ 4294967296) (h2 : L.acks.length ≤ 4294967296) : Calls Try.prog 15 #[.pointer (some ⟨b, 0, none⟩)] w fun e w' => e = .returned (.int .i64 (L.flight.length + L.acks.length : Nat)) ∧ ∃ n, w' = w.drewN n := by
  obtain ⟨vo, vf, va, hL⟩ := h
  obtain ⟨a, c, rfl, _⟩ := hL.flight.shape
  obtain ⟨a', c', rfl, _⟩ := hL.acks.shape
  have c1 : w.cell? ⟨b, 3, none⟩ = some (.slice a L.flight.length c) := cell_of hL.row rfl
  have c2 : w.cell? ⟨b, 4, none⟩ = some (.slice a' L.acks.length c') := cell_of hL.row rfl
  have e1 : (L.flight.length : Int) ≤ 4294967296 := by omega
  have e2 : (L.acks.length : Int) ≤ 4294967296 := by omega
  clear hL h1 h2
  go_enter Try.func15, Try.ntmps15
  go_wp2_with fail
  go_quiet (fail)
  go_wp2
  go_ret
  exact ⟨by simp, _, rfl⟩

theorem idle_at (h : LinkAt w b F L) (h1 : L.flight.length ≤ 4294967296) (h2 : L.acks.length ≤ 4294967296) : Calls Try.prog 12 #[.pointer (some ⟨b, 0, none⟩)] w fun e w' => e = .returned (.bool (L.out.isEmpty && (L.flight.isEmpty && L.acks.isEmpty))) ∧ ∃ n, w' = w.drewN n := by
  have hf := flight_at h h1 h2
  obtain ⟨vo, vf, va, hL⟩ := h
  obtain ⟨a, c, rfl, _⟩ := hL.out.shape
  have c1 : w.cell? ⟨b, 1, none⟩ = some (.slice a L.out.length c) := cell_of hL.row rfl
  have Hf := Lib.hid hf
  clear hL h1 h2 hf
  cases ho : L.out with
  | nil =>
    rw [ho] at c1
    clear ho
    go_enter Try.func12, Try.ntmps12
    go_wp2_with fail
    refine Hf.out.mono ?_
    rintro e w' ⟨rfl, n, rfl⟩
    go_wp2
    go_ret
    refine ⟨?_, n, rfl⟩
    show Ending.returned (.bool ((L.flight.length : Int) + L.acks.length == 0)) = _
    have hd : ((L.flight.length : Int) + L.acks.length == 0) = (L.flight.isEmpty && L.acks.isEmpty) := by
      rw [Bool.eq_iff_iff]
      cases L.flight <;> cases L.acks <;> simp <;> omega
    rw [hd]
    simp
  | cons m l =>
    rw [ho] at c1
    have hne : ((((m :: l).length : Nat) : Int) == 0) = false := by simp; omega
    clear ho
    go_enter Try.func12, Try.ntmps12
    go_wp2_with fail
    go_ret
    exact ⟨by simp, 0, rfl⟩

/-- Nothing is lost where nothing is on its way. -/
theorem lose_none (h : LinkAt w b F L) (ha : L.acks = []) (hf : L.flight = []) : Calls Try.prog 19 #[.pointer (some ⟨b, 0, none⟩)] w fun e w' => e = .returned (.bool false) ∧ w = w' := by
  obtain ⟨vo, vf, va, hL⟩ := h
  have h1 := hL.acks; have h2 := hL.flight
  rw [ha] at h1; rw [hf] at h2
  obtain ⟨a1, p1, rfl⟩ := h1.none_of
  obtain ⟨a2, p2, rfl⟩ := h2.none_of
  have c3 : w.cell? ⟨b, 3, none⟩ = some (.slice a2 0 p2) := cell_of hL.row rfl
  have c4 : w.cell? ⟨b, 4, none⟩ = some (.slice a1 0 p1) := cell_of hL.row rfl
  clear hL h1 h2 ha hf
  go_enter Try.func19, Try.ntmps19
  go_wp2
  go_ret
  exact ⟨rfl, rfl⟩

/-- The answer that is on its way is lost. -/
theorem lose_ack (h : LinkAt w b F L) (x : LAck) (rest : List LAck) (ha : L.acks = x :: rest) : Calls Try.prog 19 #[.pointer (some ⟨b, 0, none⟩)] w fun e w' => e = .returned (.bool true) ∧ LinkTo w w' b F { L with acks := rest } := by
  obtain ⟨vo, vf, va, hL⟩ := h
  have hacks := hL.acks
  rw [ha] at hacks
  obtain ⟨g, off, cap, rfl, hc1, hcap, hcells, hgw, off', hoff, hown⟩ := hacks.head rfl
  have hl1 : (rest.length : Int) ≤ 9223372036854775806 := by have := hacks.le; unfold maxLen at this; simp only [List.length_cons] at this; omega
  have c4 : w.cell? ⟨b, 4, none⟩ = some (.slice (some ⟨g, off, none⟩) (rest.length + 1) cap) := cell_of hL.row rfl
  have fr : ∀ j, w.frozen? ⟨b, j, none⟩ = false := fun j => fr_of hL.row
  have HL := Lib.hid hL
  have Hown := Lib.hid hown
  clear hL hown hacks hcells ha
  rcases hoff with ⟨rfl, rfl, rfl⟩ | ⟨hne, rfl⟩
  all_goals
    go_enter Try.func19, Try.ntmps19
    go_wp2
    go_ret
    refine ⟨rfl, HL.out.close (vf' := vf) ((Mod.refl (fun k => k = b) w).setCell (fun _ => rfl) _) (heap_set HL.out.row) HL.out.out HL.out.flight Hown.out (fun _ h => h) (fun _ h => h) (fun _ h => h) HL.out.ok⟩

/-- The packet that is on its way is lost. -/
theorem lose_flight (h : LinkAt w b F L) (ha : L.acks = []) (x : LPk) (rest : List LPk) (hf : L.flight = x :: rest) : Calls Try.prog 19 #[.pointer (some ⟨b, 0, none⟩)] w fun e w' => e = .returned (.bool true) ∧ LinkTo w w' b F { L with flight := rest } := by
  obtain ⟨vo, vf, va, hL⟩ := h
  have hacks := hL.acks
  rw [ha] at hacks
  obtain ⟨a1, p1, rfl⟩ := hacks.none_of
  have hfl := hL.flight
  rw [hf] at hfl
  obtain ⟨g, off, cap, rfl, hc1, hcap, hcells, hgw, off', hoff, hown⟩ := hfl.head (LPk.len (hL.ok.2 x (by rw [hf]; simp)))
  have hl1 : (rest.length : Int) ≤ 9223372036854775806 := by have := hfl.le; unfold maxLen at this; simp only [List.length_cons] at this; omega
  have c3 : w.cell? ⟨b, 3, none⟩ = some (.slice (some ⟨g, off, none⟩) (rest.length + 1) cap) := cell_of hL.row rfl
  have c4 : w.cell? ⟨b, 4, none⟩ = some (.slice a1 0 p1) := cell_of hL.row rfl
  have fr : ∀ j, w.frozen? ⟨b, j, none⟩ = false := fun j => fr_of hL.row
  have HL := Lib.hid hL
  have Hown := Lib.hid hown
  have Hf := Lib.hid hf
  clear hL hown hacks hfl hcells ha hf
  rcases hoff with ⟨rfl, rfl, rfl⟩ | ⟨hne, rfl⟩
  all_goals
    go_enter Try.func19, Try.ntmps19
    go_wp2
    go_ret
    refine ⟨rfl, HL.out.close (va' := .slice a1 0 p1) ((Mod.refl (fun k => k = b) w).setCell (fun _ => rfl) _) (heap_set HL.out.row) HL.out.out Hown.out HL.out.acks (fun _ h => h) (fun _ h => h) (fun _ h => h) ⟨HL.out.ok.1, fun p hp => HL.out.ok.2 p (by rw [Hf.out]; simp [hp])⟩⟩

set_option maxHeartbeats 400000 in
/-- A new incarnation. -/
theorem reset_at (h : LinkAt w b F L) (he : L.epoch ≤ 4611686018427387904) : Calls Try.prog 21 #[.pointer (some ⟨b, 0, none⟩)] w fun e w' => e = .returned (.tuple #[]) ∧ LinkTo w w' b F ⟨L.epoch + 1, [], 0, [], [], 0, L.lost⟩ := by
  obtain ⟨vo, vf, va, hL⟩ := h
  have c0 : w.cell? ⟨b, 0, none⟩ = some (.int .i64 L.epoch) := cell_of hL.row rfl
  have c1 : w.cell? ⟨b, 1, none⟩ = some vo := cell_of hL.row rfl
  have c2 : w.cell? ⟨b, 2, none⟩ = some (.int .i64 L.base) := cell_of hL.row rfl
  have c3 : w.cell? ⟨b, 3, none⟩ = some vf := cell_of hL.row rfl
  have c4 : w.cell? ⟨b, 4, none⟩ = some va := cell_of hL.row rfl
  have c5 : w.cell? ⟨b, 5, none⟩ = some (.int .i64 L.want) := cell_of hL.row rfl
  have c6 : w.cell? ⟨b, 6, none⟩ = some (.int .i64 L.lost) := cell_of hL.row rfl
  have fr : ∀ j, w.frozen? ⟨b, j, none⟩ = false := fun j => fr_of hL.row
  have HL := Lib.hid hL
  clear hL
  go_enter Try.func21, Try.ntmps21
  refine wp_region_plan 11 11 (fun x => x.cell? ⟨b, 0, none⟩ = some (.int .i64 L.epoch) ∧ x.cell? ⟨b, 6, none⟩ = some (.int .i64 L.lost)) (by kernel_rfl) (by kernel_rfl) (fun _ _ d _ _ h => (by cases d <;> exact h)) (fun w x h => ⟨cell_new h.1 x, cell_new h.2 x⟩) ⟨c0, c6⟩ ?_
  simp only [List.take_succ_cons, List.take_zero, List.drop_succ_cons, List.drop_zero]
  repeat
    refine stillS_cons (v := ?_) rfl (fun w0 h0 => ?_) ?_
    rotate_left
    first
      | (have h1 := h0 rfl; clear h0; obtain ⟨s0, s6⟩ := h1; go_simp; with_reducible rfl)
      | (clear h0; go_simp; with_reducible rfl)
    simp only [Act.put, List.setIfInBounds_toArray, List.set_cons_zero, List.set_cons_succ]
  refine stillS_nil ?_
  go_wp2
  go_end0
  refine ⟨rfl, LinkTo.mk (vo := .slice none 0 0) (vf := .slice none 0 0) (va := .slice none 0 0) ((HL.out.foot b).2 (.inl rfl)) ?_ (OwnSl.nil _ _ _) (OwnSl.nil _ _ _) (OwnSl.nil _ _ _) ⟨fun m hm => (by simp at hm), fun m hm => (by simp at hm)⟩ ?_ (fun k hk => (by simp [inBlock, Value.ownBlock] at hk)) (fun k hk => (by simp [inBlock, Value.ownBlock] at hk)) (fun k hk => (by simp [inBlock, Value.ownBlock] at hk))⟩
  · have r := heap_drew_ (heap_set (i := 6) (v := .int .i64 L.lost) (heap_set (i := 5) (v := .int .i64 0) (heap_set (i := 4) (v := .slice none 0 0) (heap_set (i := 3) (v := .slice none 0 0) (heap_set (i := 2) (v := .int .i64 0) (heap_set (i := 1) (v := .slice none 0 0) (heap_set (i := 0) (v := .int .i64 (L.epoch + 1)) HL.out.row)))))))
    refine r.trans ?_
    simp
  · have hF : F b := (HL.out.foot b).2 (.inl rfl)
    exact ((((((((Mod.refl F w).setCell (fun _ => hF) _).setCell (fun _ => hF) _).setCell (fun _ => hF) _).setCell (fun _ => hF) _).setCell (fun _ => hF) _).setCell (fun _ => hF) _).setCell (fun _ => hF) _).drew

end
end Go.Proofs.Ytdlmadjlhiblmaa
