/-
  The contracts of package link, the methods: what each makes of a link, in whatever memory it lies.
-/
import Derived.Test.YtdlmadjlhiblmaaLink

namespace Go.Proofs.Ytdlmadjlhiblmaa
open Go.RowKit

structure LPk where
  epoch : Nat
  seq : Nat
  msg : LMsg
def LPk.cells (p : LPk) : List Value := .int .i64 p.epoch :: .int .i64 p.seq :: p.msg.cells
theorem LPk.len {p : LPk} (h : p.msg.ok) : p.cells.length = 19 := by simp [LPk.cells, h.len]

structure LAck where
  epoch : Nat
  seq : Nat
def LAck.cells (p : LAck) : List Value := [.int .i64 p.epoch, .int .i64 p.seq]

/-- What a link is. -/
structure LinkS where
  epoch : Nat
  out : List LMsg
  base : Nat
  flight : List LPk
  acks : List LAck
  want : Nat
  lost : Nat

def LinkS.ok (L : LinkS) : Prop := (∀ m ∈ L.out, m.ok) ∧ (∀ p ∈ L.flight, p.msg.ok)

/-- The link lies in block b, its three lists in vo, vf, va; F: the blocks that are its own. -/
structure LinkIs (w : World) (b : Nat) (F : Nat → Prop) (L : LinkS) (vo vf va : Value) : Prop where
  row : w.heap[b]? = some (.cells #[.int .i64 L.epoch, vo, .int .i64 L.base, vf, va, .int .i64 L.want, .int .i64 L.lost] 27 (0, 0))
  out : OwnSl w 38 17 vo L.out.length (flat LMsg.cells L.out)
  flight : OwnSl w 55 19 vf L.flight.length (flat LPk.cells L.flight)
  acks : OwnSl w 53 2 va L.acks.length (flat LAck.cells L.acks)
  foot : ∀ k, F k ↔ k = b ∨ inBlock vo k ∨ inBlock vf k ∨ inBlock va k
  ok : L.ok
def LinkAt (w : World) (b : Nat) (F : Nat → Prop) (L : LinkS) : Prop := ∃ vo vf va, LinkIs w b F L vo vf va

section
variable {w w' : World} {b : Nat} {F : Nat → Prop} {L : LinkS}

theorem LinkIs.mod {G : Nat → Prop} {vo vf va : Value} (h : LinkIs w b F L vo vf va) (hm : Mod G w w') (hd : ∀ k, F k → ¬ G k) : LinkIs w' b F L vo vf va :=
  ⟨hm.heap h.row (hd _ ((h.foot _).2 (.inl rfl))), h.out.mod hm fun _ hk => hd _ ((h.foot _).2 (.inr (.inl hk))), h.flight.mod hm fun _ hk => hd _ ((h.foot _).2 (.inr (.inr (.inl hk)))),
    h.acks.mod hm fun _ hk => hd _ ((h.foot _).2 (.inr (.inr (.inr hk)))), h.foot, h.ok⟩
theorem LinkAt.mod {G : Nat → Prop} (h : LinkAt w b F L) (hm : Mod G w w') (hd : ∀ k, F k → ¬ G k) : LinkAt w' b F L := by
  obtain ⟨vo, vf, va, h⟩ := h
  exact ⟨vo, vf, va, h.mod hm hd⟩
theorem LinkAt.lt (h : LinkAt w b F L) : b < w.heap.size := by
  obtain ⟨vo, vf, va, h⟩ := h
  exact (Array.getElem?_eq_some_iff.1 h.row).1

/-- What its blocks are made of: so they are none of another make. -/
theorem LinkAt.elem (h : LinkAt w b F L) : ∀ k, F k → ∃ cur e, w.heap[k]? = some (.cells cur e (0, 0)) ∧ (e = 27 ∨ e = 38 ∨ e = 55 ∨ e = 53) := by
  obtain ⟨vo, vf, va, h⟩ := h
  intro k hk
  rcases (h.foot k).1 hk with rfl | hk | hk | hk
  · exact ⟨_, _, h.row, .inl rfl⟩
  · obtain ⟨c, hc⟩ := h.out.elem k hk; exact ⟨c, _, hc, .inr (.inl rfl)⟩
  · obtain ⟨c, hc⟩ := h.flight.elem k hk; exact ⟨c, _, hc, .inr (.inr (.inl rfl))⟩
  · obtain ⟨c, hc⟩ := h.acks.elem k hk; exact ⟨c, _, hc, .inr (.inr (.inr rfl))⟩

theorem heap_ne {k j : Nat} {c d : Array Value} {e f : TypeId} {x y : Nat × Nat} (h : w.heap[k]? = some (.cells c e x)) (h' : w.heap[j]? = some (.cells d f y)) (hne : e ≠ f) : k ≠ j := by
  rintro rfl
  rw [h] at h'
  cases h'
  exact hne rfl

theorem OwnSl.ne {e : TypeId} {sz n : Nat} {v : Value} {xs : List Value} (h : OwnSl w e sz v n xs) {c : Array Value} {f : TypeId} {x : Nat × Nat} {j : Nat} (hj : w.heap[j]? = some (.cells c f x)) (hne : e ≠ f) : ∀ k, inBlock v k → k ≠ j := by
  intro k hk
  obtain ⟨cur, hc⟩ := h.elem k hk
  exact heap_ne hc hj hne

theorem OwnSl.apart {e e' : TypeId} {sz n sz' n' : Nat} {v v' : Value} {xs xs' : List Value} (h : OwnSl w e sz v n xs) (h' : OwnSl w e' sz' v' n' xs') (hne : e ≠ e') : ∀ k, inBlock v k → ¬ inBlock v' k := by
  intro k hk hk'
  obtain ⟨cur, hc⟩ := h'.elem k hk'
  exact h.ne hc hne k hk rfl

end

theorem msgs_T : SliceT Try.prog 23 38 17 232 := sliceT (by kernel_rfl) (by kernel_rfl)
theorem packets_T : SliceT Try.prog 24 55 19 248 := sliceT (by kernel_rfl) (by kernel_rfl)
theorem acks_T : SliceT Try.prog 25 53 2 16 := sliceT (by kernel_rfl) (by kernel_rfl)

theorem evCount_eq (L : LinkS) : evCount L.out = (L.out.filter fun m => m.kind == 3).length := rfl

/-- Push's first test. -/
theorem events_at (b : Nat) (F : Nat → Prop) (L : LinkS) (w : World) (h : LinkAt w b F L) :
    Calls Try.prog 28 #[.pointer (some ⟨b, 0, none⟩)] w fun e w' => e = .returned (.int .i64 (evCount L.out)) ∧ Mod (fun _ => False) w w' := by
  obtain ⟨vo, vf, va, h1, h2, h3, h4, h5, h6⟩ := h
  have hrd := h2.rd
  have hle := h2.le
  obtain ⟨hl, a, cap, rfl, hc, hn, _⟩ := hrd
  have hc1 : w.cell? ⟨b, 1, none⟩ = some (.slice a L.out.length cap) := by rw [cell_of_row w b 1 _ _ _ h1]; rfl
  cases a with
  | none =>
    have h0 := hn rfl
    have e0 : L.out = [] := List.eq_nil_of_length_eq_zero h0
    rw [h0] at hc1
    refine (events_none b cap none w hc1).mono fun e w' ⟨he, hw⟩ => ⟨?_, hw ▸ Mod.refl _ _⟩
    rw [he, e0]; rfl
  | some ad =>
    obtain ⟨_, a2, cap2, hv, _, _, hcc⟩ := h2.rd
    cases hv
    obtain ⟨g, off, he, _⟩ := hcc ad rfl
    subst he
    exact events_any b g off _ cap L.out w hc1 rfl h6.1 h2.rd hle

/-- Whatever a method leaves: the link, and that nothing else has been written. -/
def LinkTo (w w' : World) (b : Nat) (F : Nat → Prop) (L : LinkS) : Prop := ∃ F', LinkAt w' b F' L ∧ Mod F w w' ∧ ∀ k, F' k → F k ∨ w.heap.size ≤ k

theorem LinkTo.mk {w w' : World} {b : Nat} {F : Nat → Prop} {L : LinkS} {vo vf va : Value} (hb : F b)
    (row : w'.heap[b]? = some (.cells #[.int .i64 L.epoch, vo, .int .i64 L.base, vf, va, .int .i64 L.want, .int .i64 L.lost] 27 (0, 0)))
    (out : OwnSl w' 38 17 vo L.out.length (flat LMsg.cells L.out)) (flight : OwnSl w' 55 19 vf L.flight.length (flat LPk.cells L.flight)) (acks : OwnSl w' 53 2 va L.acks.length (flat LAck.cells L.acks))
    (ok : L.ok) (hm : Mod F w w') (h1 : ∀ k, inBlock vo k → F k ∨ w.heap.size ≤ k) (h2 : ∀ k, inBlock vf k → F k ∨ w.heap.size ≤ k) (h3 : ∀ k, inBlock va k → F k ∨ w.heap.size ≤ k) : LinkTo w w' b F L :=
  ⟨fun k => k = b ∨ inBlock vo k ∨ inBlock vf k ∨ inBlock va k, ⟨vo, vf, va, row, out, flight, acks, fun k => Iff.rfl, ok⟩, hm, fun k hk => by
    rcases hk with rfl | hk | hk | hk
    · exact .inl hb
    · exact h1 k hk
    · exact h2 k hk
    · exact h3 k hk⟩

theorem LinkTo.from {w0 w w' : World} {b : Nat} {F : Nat → Prop} {L : LinkS} (h : LinkTo w w' b F L) (hm : Mod (fun _ => False) w0 w) : LinkTo w0 w' b F L := by
  obtain ⟨F', h1, h2, h3⟩ := h
  refine ⟨F', h1, (hm.mono (G := F) (fun _ _ h => h.elim)).trans h2 (fun _ _ h => h), fun k hk => ?_⟩
  rcases h3 k hk with h | h
  · exact .inl h
  · exact .inr (Nat.le_trans hm.size h)

theorem flat_snoc {α : Type} (f : α → List Value) (l : List α) (x : α) : flat f l ++ f x = flat f (l ++ [x]) := by simp [flat]

/-- Behind the append onto the first list, and the store. -/
theorem LinkIs.pushed {w w0 w2 : World} {b : Nat} {F : Nat → Prop} {L : LinkS} {vo vf va : Value} {m : LMsg} {ad : Option Addr} {cap : Nat} (h : LinkIs w b F L vo vf va) (h0 : Mod (fun _ => False) w w0) (hm : m.ok)
    (hA : Appended w0 38 17 vo (L.out.length + 1) (flat LMsg.cells L.out ++ m.cells) (.slice ad (L.out.length + 1) cap) w2) :
    LinkTo w (w2.setCell ⟨b, 1, none⟩ (.slice ad (L.out.length + 1) cap)) b F { L with out := L.out ++ [m] } := by
  have hF := fun k => (h.foot k).2
  have i0 := h.mod h0 (by simp)
  have hsz : w.heap.size ≤ w0.heap.size := h0.size
  obtain ⟨a1, a2, a3⟩ := hA
  have nob : ¬ inBlock vo b := fun hi => i0.out.ne i0.row (by decide) b hi rfl
  have r2 := a2.heap i0.row nob
  have of2 := i0.flight.mod a2 (i0.flight.apart i0.out (by decide))
  have oa2 := i0.acks.mod a2 (i0.acks.apart i0.out (by decide))
  have hle : Mod F w w2 := (h0.mono (G := F) (fun _ _ h => h.elim)).trans a2 fun k _ hk => hF k (.inr (.inl hk))
  refine LinkTo.mk (vo := .slice ad (L.out.length + 1) cap) (vf := vf) (va := va) (hF b (.inl rfl)) ?_ ?_ ?_ ?_ ⟨fun x hx => ?_, h.ok.2⟩ (hle.setCell (fun _ => hF b (.inl rfl)) _) (fun k hk => ?_) (fun k hk => .inl (hF k (.inr (.inr (.inl hk))))) (fun k hk => .inl (hF k (.inr (.inr (.inr hk)))))
  · exact heap_set r2
  · have := a1.setCell (a := ⟨b, 1, none⟩) (fun hi => a1.ne r2 (by decide) b hi rfl) (.slice ad (L.out.length + 1) cap)
    rw [flat_snoc] at this
    simpa using this
  · exact of2.setCell (fun hi => of2.ne r2 (by decide) b hi rfl) _
  · exact oa2.setCell (fun hi => oa2.ne r2 (by decide) b hi rfl) _
  · rcases List.mem_append.1 hx with hx | hx
    · exact h.ok.1 x hx
    · simp at hx; subst hx; exact hm
  · rcases a3 with a3 | ⟨j, hj, hjs⟩
    · exact .inl (hF k (.inr (.inl (by unfold inBlock at hk ⊢; rw [← a3]; exact hk))))
    · unfold inBlock at hk; rw [hj] at hk; cases hk; exact .inr (by omega)

/-- Push, where there is room. -/
theorem push_event (b : Nat) (F : Nat → Prop) (L : LinkS) (m : LMsg) (w : World) (h : LinkAt w b F L) (hm : m.ok) (hk3 : m.kind = 3) (hev : evCount L.out < 6) (hlen : L.out.length ≤ 4294967296) :
    Calls Try.prog 9 #[.pointer (some ⟨b, 0, none⟩), .agg m.cells.toArray] w fun e w' => e = .returned (.bool true) ∧ LinkTo w w' b F { L with out := L.out ++ [m] } := by
  have hk0 : m.cells[0]? = some (Value.int .i64 m.kind) := rfl
  have hbw := h.lt
  have hb3 : (m.kind == 3) = true := by simp [hk3]
  have Hk := Lib.hid hk3; clear hk3
  go_enter Try.func9, Try.ntmps9
  go_wp2_with fail
  refine (events_at b F L _ ?h).mono ?_
  case h => exact h.mod ((Mod.refl (fun _ => False) w).alloc _) (by simp)
  rintro e w1 ⟨rfl, hm1⟩
  have hmw : Mod (fun _ => False) w w1 := ((Mod.refl (fun _ => False) w).alloc _).trans hm1 (by simp)
  have hL1 := h.mod hmw (by simp)
  have hbox : w1.heap[w.heap.size]? = some (.cells m.cells.toArray 38 (0, 0)) := hm1.heap (heap_alloc_new w _) (by simp)
  obtain ⟨vo, vf, va, hL⟩ := hL1
  have h1 := hL.row
  have hml := hm.len
  have hca : CellsAt w1 w.heap.size 0 m.cells := by simpa using CellsAt.row hbox
  have HX := hca.all hml
  have HY := hca.is hml
  clear hca
  have c1 : w1.cell? ⟨b, 1, none⟩ = some vo := cell_of h1 rfl
  have f1 : w1.frozen? ⟨b, 1, none⟩ = false := fr_of h1
  have Hne : Hid (∀ k, k = b → ¬ inBlock vo k) := Lib.hid fun k hk hi => hL.out.ne h1 (by decide) k hi hk
  have hbw1 : b < w1.heap.size := Nat.lt_of_lt_of_le hbw hmw.size
  have Hevl := Lib.hid hlen
  have HF : ∀ A : Array Value, A.size = 17 → List.foldl (fun cs x => cs.setIfInBounds x.snd x.fst) A m.cells.zipIdx = m.cells.toArray := fun A hA => fold_cells _ A (by rw [hA, hml])
  have Hone := Lib.hid hm.one
  have H1 := Lib.hid h1
  have HL := Lib.hid hL
  have Hmw := Lib.hid hmw
  clear hL hlen h hk0 hbox hmw h1
  go_wp2_with fail
  go_region_law ((refine step_append_sl rfl (.tmp 24) (.tmp 26) 23 rfl 38 17 232 msgs_T vo L.out.length (flat LMsg.cells L.out) rfl ((HL.out.out.alloc _).drew) (.slice (some ⟨w1.heap.size, 0, none⟩) 1 1) 1 m.cells rfl (RdSl.oneD w1 m.cells 38 hml) Hone.out (by have := Hevl.out; omega) (by have := Hevl.out; unfold maxLen; omega) ?_; intro ad cap w2 hA; have hb2 := (hA.2.1.heap (k := b) (o := Obj.cells _ _ (0, 0)) ((_root_.Go.heap_alloc_old _ _ hbw1).trans H1.out) (fun hi => Hne.out b rfl hi)); have c2 : w2.cell? ⟨b, 1, none⟩ = some vo := cell_of hb2 rfl; have f2 : w2.frozen? ⟨b, 1, none⟩ = false := fr_of hb2; have HAp := Lib.hid hA; clear hA hb2))
  all_goals
    go_wp2
    go_ret
    exact ⟨rfl, (HL.out.pushed (((Mod.refl _ _).alloc _).drew) hm HAp.out).from Hmw.out⟩

/-- Push of what is no event. -/
theorem push_other (b : Nat) (F : Nat → Prop) (L : LinkS) (m : LMsg) (w : World) (h : LinkAt w b F L) (hm : m.ok) (hk3 : m.kind ≠ 3) (hlen : L.out.length ≤ 4294967296) :
    Calls Try.prog 9 #[.pointer (some ⟨b, 0, none⟩), .agg m.cells.toArray] w fun e w' => e = .returned (.bool true) ∧ LinkTo w w' b F { L with out := L.out ++ [m] } := by
  have hk0 : m.cells[0]? = some (Value.int .i64 m.kind) := rfl
  have hbw := h.lt
  have hb3 : (m.kind == 3) = false := by simp [hk3]
  have Hk := Lib.hid hk3; clear hk3
  go_enter Try.func9, Try.ntmps9
  obtain ⟨w1, hw1⟩ : ∃ w1 : World, w1 = w.alloc (.cells m.cells.toArray 38) := ⟨_, rfl⟩
  have hmw : Mod (fun _ => False) w w1 := hw1 ▸ (Mod.refl (fun _ => False) w).alloc _
  have hbox : w1.heap[w.heap.size]? = some (.cells m.cells.toArray 38 (0, 0)) := hw1 ▸ heap_alloc_new w _
  have Hw1 := Lib.hid hw1; clear hw1
  have hL1 := h.mod hmw (by simp)
  go_wp2_with fail
  rw [← Hw1.out]
  obtain ⟨vo, vf, va, hL⟩ := hL1
  have h1 := hL.row
  have hml := hm.len
  have hca : CellsAt w1 w.heap.size 0 m.cells := by simpa using CellsAt.row hbox
  have HX := hca.all hml
  have HY := hca.is hml
  clear hca
  have c1 : w1.cell? ⟨b, 1, none⟩ = some vo := cell_of h1 rfl
  have f1 : w1.frozen? ⟨b, 1, none⟩ = false := fr_of h1
  have Hne : Hid (∀ k, k = b → ¬ inBlock vo k) := Lib.hid fun k hk hi => hL.out.ne h1 (by decide) k hi hk
  have hbw1 : b < w1.heap.size := Nat.lt_of_lt_of_le hbw hmw.size
  have Hevl := Lib.hid hlen
  have HF : ∀ A : Array Value, A.size = 17 → List.foldl (fun cs x => cs.setIfInBounds x.snd x.fst) A m.cells.zipIdx = m.cells.toArray := fun A hA => fold_cells _ A (by rw [hA, hml])
  have Hone := Lib.hid hm.one
  have H1 := Lib.hid h1
  have HL := Lib.hid hL
  have Hmw := Lib.hid hmw
  clear hL hlen h hk0 hbox hmw h1
  go_wp2_with fail
  go_region_law ((refine step_append_sl rfl (.tmp 24) (.tmp 26) 23 rfl 38 17 232 msgs_T vo L.out.length (flat LMsg.cells L.out) rfl ((HL.out.out.alloc _).drew) (.slice (some ⟨w1.heap.size, 0, none⟩) 1 1) 1 m.cells rfl (RdSl.oneD w1 m.cells 38 hml) Hone.out (by have := Hevl.out; omega) (by have := Hevl.out; unfold maxLen; omega) ?_; intro ad cap w2 hA; have hb2 := (hA.2.1.heap (k := b) (o := Obj.cells _ _ (0, 0)) ((_root_.Go.heap_alloc_old _ _ hbw1).trans H1.out) (fun hi => Hne.out b rfl hi)); have c2 : w2.cell? ⟨b, 1, none⟩ = some vo := cell_of hb2 rfl; have f2 : w2.frozen? ⟨b, 1, none⟩ = false := fr_of hb2; have HAp := Lib.hid hA; clear hA hb2))
  all_goals
    go_wp2
    go_ret
    exact ⟨rfl, (HL.out.pushed (((Mod.refl _ _).alloc _).drew) hm HAp.out).from Hmw.out⟩

/-- Push, where there is room. -/
theorem push_ok (b : Nat) (F : Nat → Prop) (L : LinkS) (m : LMsg) (w : World) (h : LinkAt w b F L) (hm : m.ok) (hroom : m.kind ≠ 3 ∨ evCount L.out < 6) (hlen : L.out.length ≤ 4294967296) :
    Calls Try.prog 9 #[.pointer (some ⟨b, 0, none⟩), .agg m.cells.toArray] w fun e w' => e = .returned (.bool true) ∧ LinkTo w w' b F { L with out := L.out ++ [m] } := by
  by_cases hk3 : m.kind = 3
  · exact push_event b F L m w h hm hk3 (by omega) hlen
  · exact push_other b F L m w h hm hk3 hlen

/-- Push of an event, where there is none. -/
theorem push_full (b : Nat) (F : Nat → Prop) (L : LinkS) (m : LMsg) (w : World) (h : LinkAt w b F L) (hk3 : m.kind = 3) (hfull : 6 ≤ evCount L.out) (hlost : L.lost ≤ 4611686018427387904) :
    Calls Try.prog 9 #[.pointer (some ⟨b, 0, none⟩), .agg m.cells.toArray] w fun e w' => e = .returned (.bool false) ∧ LinkTo w w' b F { L with lost := L.lost + 1 } := by
  have hk0 : m.cells[0]? = some (Value.int .i64 m.kind) := rfl
  have hbw := h.lt
  have hb3 : (m.kind == 3) = true := by simp [hk3]
  have Hk := Lib.hid hk3; clear hk3
  go_enter Try.func9, Try.ntmps9
  go_wp2_with fail
  refine (events_at b F L _ ?h).mono ?_
  case h => exact h.mod ((Mod.refl (fun _ => False) w).alloc _) (by simp)
  rintro e w1 ⟨rfl, hm1⟩
  have hmw : Mod (fun _ => False) w w1 := ((Mod.refl (fun _ => False) w).alloc _).trans hm1 (by simp)
  obtain ⟨vo, vf, va, hL1⟩ := h.mod hmw (by simp)
  have c1 : w1.cell? ⟨b, 6, none⟩ = some (.int .i64 L.lost) := cell_of hL1.row rfl
  have f1 : w1.frozen? ⟨b, 6, none⟩ = false := fr_of hL1.row
  have HL := Lib.hid hL1; clear hL1 h
  have Hmw := Lib.hid hmw; clear hmw hm1
  go_wp2
  go_ret
  refine ⟨rfl, LinkTo.from ?_ Hmw.out⟩
  have h := HL.out
  have hF := fun k => (h.foot k).2
  refine LinkTo.mk (vo := vo) (vf := vf) (va := va) (hF b (.inl rfl)) ?_ (h.out.setCell (fun hi => h.out.ne h.row (by decide) b hi rfl) _) (h.flight.setCell (fun hi => h.flight.ne h.row (by decide) b hi rfl) _)
    (h.acks.setCell (fun hi => h.acks.ne h.row (by decide) b hi rfl) _) h.ok ((Mod.refl F w1).setCell (fun _ => hF b (.inl rfl)) _) (fun k hk => .inl (hF k (.inr (.inl hk)))) (fun k hk => .inl (hF k (.inr (.inr (.inl hk))))) (fun k hk => .inl (hF k (.inr (.inr (.inr hk)))))
  exact heap_set h.row
end Go.Proofs.Ytdlmadjlhiblmaa
