/-
  LinkRuns: its closures.
-/
import Derived.Test.YtdlmadjlhiblmaaRunsm
namespace Go.Proofs.Ytdlmadjlhiblmaa
open Go.RowKit

theorem callFunc24 : ∀ (args : Array Value) (W : World), Sem.run Try.prog (callFunc 24 args) W = .ok (.enter 24 args) W := by
  intro args W
  go_simp
theorem callFunc25 : ∀ (args : Array Value) (W : World), Sem.run Try.prog (callFunc 25 args) W = .ok (.enter 25 args) W := by
  intro args W
  go_simp
theorem callFunc26 : ∀ (args : Array Value) (W : World), Sem.run Try.prog (callFunc 26 args) W = .ok (.enter 26 args) W := by
  intro args W
  go_simp

theorem runs_no (m : LMsg) (w : World) : Calls Try.prog 24 #[.agg m.cells.toArray] w fun e w' => e = .returned (.bool false) ∧ Mod (fun _ => False) w w' := by
  go_enter Try.func24, Try.ntmps24
  go_wp2
  go_ret
  exact ⟨rfl, (Mod.refl _ w).alloc _⟩

theorem takes25 : Takes 25 := by
  intro c tv T m w hc hT hl
  have k1 : m.cells[1]? = some (Value.int .i64 m.at_) := rfl
  obtain ⟨ta, tcap, htv, -⟩ := hT.shape
  have c0 : w.cell? ⟨c, 0, none⟩ = some tv := cell_of hc rfl
  have hlt : c < w.heap.size := (Array.getElem?_eq_some_iff.1 hc).1
  have hne : ¬ inBlock tv c := hT.off hc (by decide)
  subst htv
  have Hc := Lib.hid hc
  have HT := Lib.hid hT
  have Hne := Lib.hid hne
  have Hl := Lib.hid hl
  clear hc hT hne hl
  go_enter Try.func25, Try.ntmps25
  have Hrd : Hid (RdSl ((w.alloc (.cells m.cells.toArray 38)).alloc (.cells #[.int .i64 m.at_] 3)) 1 (.slice (some ⟨w.heap.size + 1, 0, none⟩) 1 1) 1 [.int .i64 m.at_]) := by
    have h := RdSl.one (w.alloc (.cells m.cells.toArray 38)) [.int .i64 m.at_] 3 (sz := 1) rfl
    have e : (w.alloc (.cells m.cells.toArray 38)).heap.size = w.heap.size + 1 := by simp
    rw [e] at h
    exact Lib.hid h
  go_wp2_with ((refine wpList_append_sl rfl (.tmp 4) (.tmp 7) 47 rfl 3 1 8 ints_T (.slice ta T.length tcap) T.length (ints T) rfl ((HT.out.alloc _).alloc _) _ 1 [.int .i64 m.at_] rfl Hrd.out (by simp [Value.oneCell']) (by have := Hl.out; omega) (by have := Hl.out; unfold maxLen; omega) ?_; intro ad cap w2 hA; have hc2 := hA.2.1.heap (k := c) (heap_old (heap_old Hc.out)) Hne.out; have c2 : w2.cell? ⟨c, 0, none⟩ = some (.slice ta T.length tcap) := cell_of hc2 rfl; have f2 : w2.frozen? ⟨c, 0, none⟩ = false := fr_of hc2; have HAp := Lib.hid hA; have Hc2 := Lib.hid hc2; clear hA hc2))
  go_ret
  obtain ⟨h1, h2, h3⟩ := HAp.out
  have hci := h2.heap (k := c) (heap_old (heap_old Hc.out)) Hne.out
  have hm0 : Mod (fun _ => False) w ((w.alloc (.cells m.cells.toArray 38)).alloc (.cells #[.int .i64 m.at_] 3)) := ((Mod.refl _ w).alloc _).alloc _
  refine ⟨rfl, .slice ad (T.length + 1) cap, heap_set hci, ?_, ((hm0.mono (fun _ _ h => h.elim)).trans (h2.mono fun _ _ h => .inr h) (fun _ _ h => h)).setCell (fun _ => .inl rfl) _, ?_⟩
  · rw [ints_snoc]
    exact h1.setCell (h1.off hci (by decide)) _
  · rcases h3 with h3 | ⟨k, h3, h4⟩
    · exact .inl h3
    · exact .inr ⟨k, h3, by simp at h4; omega⟩

theorem takes26 : Takes 26 := by
  intro c tv T m w hc hT hl
  have k1 : m.cells[1]? = some (Value.int .i64 m.at_) := rfl
  obtain ⟨ta, tcap, htv, -⟩ := hT.shape
  have c0 : w.cell? ⟨c, 0, none⟩ = some tv := cell_of hc rfl
  have hlt : c < w.heap.size := (Array.getElem?_eq_some_iff.1 hc).1
  have hne : ¬ inBlock tv c := hT.off hc (by decide)
  subst htv
  have Hc := Lib.hid hc
  have HT := Lib.hid hT
  have Hne := Lib.hid hne
  have Hl := Lib.hid hl
  clear hc hT hne hl
  go_enter Try.func26, Try.ntmps26
  have Hrd : Hid (RdSl ((w.alloc (.cells m.cells.toArray 38)).alloc (.cells #[.int .i64 m.at_] 3)) 1 (.slice (some ⟨w.heap.size + 1, 0, none⟩) 1 1) 1 [.int .i64 m.at_]) := by
    have h := RdSl.one (w.alloc (.cells m.cells.toArray 38)) [.int .i64 m.at_] 3 (sz := 1) rfl
    have e : (w.alloc (.cells m.cells.toArray 38)).heap.size = w.heap.size + 1 := by simp
    rw [e] at h
    exact Lib.hid h
  go_wp2_with ((refine wpList_append_sl rfl (.tmp 4) (.tmp 7) 47 rfl 3 1 8 ints_T (.slice ta T.length tcap) T.length (ints T) rfl ((HT.out.alloc _).alloc _) _ 1 [.int .i64 m.at_] rfl Hrd.out (by simp [Value.oneCell']) (by have := Hl.out; omega) (by have := Hl.out; unfold maxLen; omega) ?_; intro ad cap w2 hA; have hc2 := hA.2.1.heap (k := c) (heap_old (heap_old Hc.out)) Hne.out; have c2 : w2.cell? ⟨c, 0, none⟩ = some (.slice ta T.length tcap) := cell_of hc2 rfl; have f2 : w2.frozen? ⟨c, 0, none⟩ = false := fr_of hc2; have HAp := Lib.hid hA; have Hc2 := Lib.hid hc2; clear hA hc2))
  go_ret
  obtain ⟨h1, h2, h3⟩ := HAp.out
  have hci := h2.heap (k := c) (heap_old (heap_old Hc.out)) Hne.out
  have hm0 : Mod (fun _ => False) w ((w.alloc (.cells m.cells.toArray 38)).alloc (.cells #[.int .i64 m.at_] 3)) := ((Mod.refl _ w).alloc _).alloc _
  refine ⟨rfl, .slice ad (T.length + 1) cap, heap_set hci, ?_, ((hm0.mono (fun _ _ h => h.elim)).trans (h2.mono fun _ _ h => .inr h) (fun _ _ h => h)).setCell (fun _ => .inl rfl) _, ?_⟩
  · rw [ints_snoc]
    exact h1.setCell (h1.off hci (by decide)) _
  · rcases h3 with h3 | ⟨k, h3, h4⟩
    · exact .inl h3
    · exact .inr ⟨k, h3, by simp at h4; omega⟩

/-- PUSH of a message that lies in a variable of its own. -/
theorem push_two {w0 w : World} {b c : Nat} {a : LS} {P T : List Int} {pv : Value} (h : Two w0 w b c a P T pv) (m : LMsg) (hm : m.ok) (hlen : a.q.length ≤ 4294967296) (hl : a.lost ≤ 4294967296) :
    Calls Try.prog 9 #[.pointer (some ⟨b, 0, none⟩), .agg m.cells.toArray] (w.alloc (.cells m.cells.toArray 38)) fun e w' =>
      (¬ (m.kind = 3 ∧ 6 ≤ evCount a.q) ∧ e = .returned (.bool true) ∧ Two w0 w' b c { a with q := a.q ++ [m] } P T pv) ∨
      ((m.kind = 3 ∧ 6 ≤ evCount a.q) ∧ e = .returned (.bool false) ∧ Two w0 w' b c { a with lost := a.lost + 1 } P T pv ∧ w'.heap[w.heap.size]? = some (.cells m.cells.toArray 38 (0, 0))) := by
  have h' := h.new ((Mod.refl (fun _ => False) w).alloc (.cells m.cells.toArray 38))
  obtain ⟨F, h1, h2⟩ := h.own.at_
  have hg := h.own.good
  have hF : ¬ F w.heap.size := fun hF => by
    obtain ⟨cur, e', hc, -⟩ := h1.elem _ hF
    simp at hc
  have h1' := h1.mod ((Mod.refl (fun _ => False) w).alloc (.cells m.cells.toArray 38)) (by simp)
  refine (push_all b F a m _ h1' hg hm hlen hl).mono fun e w' hp => ?_
  rcases hp with ⟨p1, p2, p3⟩ | ⟨p1, p2, p3⟩
  · exact .inl ⟨p1, p2, h'.link (h'.own.next h2 p3 ⟨fun h => (by simp at h), hg.2.1, hg.2.2⟩) (p3.kept h1')⟩
  · exact .inr ⟨p1, p2, h'.link (h'.own.next h2 p3 hg) (p3.kept h1'), p3.apart (heap_alloc_new w _) hF⟩

theorem Two.clear {w0 w : World} {b c : Nat} {a : LS} {P T : List Int} {pv : Value} (h : Two w0 w b c a P T pv) : Two w0 (w.setCell ⟨c, 0, none⟩ (.slice none 0 0)) b c a [] [] (.slice none 0 0) := by
  obtain ⟨tv, h1, h2, h3⟩ := h.cell
  exact ⟨h.own.mod h1 ints_apart h.cnew ((Mod.refl (fun k => k = c) w).setCell (fun _ => rfl) _), ⟨.slice none 0 0, heap_set h1, OwnSl.nil _ _ _, fun k hk => (by simp [inBlock, Value.ownBlock] at hk)⟩, OwnSl.nil _ _ _, fun k hk => (by simp [inBlock, Value.ownBlock] at hk), h.cnew⟩

/-- The variable that the closures captured holds a slice of so many. -/
theorem Two.var {w0 w : World} {b c : Nat} {a : LS} {P T : List Int} {pv : Value} (h : Two w0 w b c a P T pv) : ∃ ta tcap, w.cell? ⟨c, 0, none⟩ = some (.slice ta T.length tcap) ∧ w.frozen? ⟨c, 0, none⟩ = false ∧ c < w.heap.size ∧ OwnSl w 3 1 (.slice ta T.length tcap) T.length (ints T) := by
  obtain ⟨tv, h1, h2, h3⟩ := h.cell
  obtain ⟨ta, tcap, rfl, -⟩ := h2.shape
  exact ⟨ta, tcap, cell_of h1 rfl, fr_of h1, (Array.getElem?_eq_some_iff.1 h1).1, h2⟩

/-- An element of such a slice. -/
theorem ints_at {w : World} {a : Option Addr} {n cap : Nat} {l : List Int} (h : OwnSl w 3 1 (.slice a n cap) n (ints l)) {i : Nat} {x : Int} (hx : l[i]? = some x) : ∃ ad, a = some ad ∧ w.cell? (ad.add i) = some (.int .i64 x) := by
  obtain ⟨h1, a', cap', hv, h2, h3, h4⟩ := h.rd
  cases hv
  have hlt : i < l.length := (List.getElem?_eq_some_iff.1 hx).1
  cases a with
  | none => have := h3 rfl; rw [ints_length] at h1; omega
  | some ad =>
    obtain ⟨g, off, rfl, h5⟩ := h4 ad rfl
    refine ⟨_, rfl, ?_⟩
    rw [addr_add]
    exact h5 i _ (by simp [ints, hx])
end Go.Proofs.Ytdlmadjlhiblmaa
