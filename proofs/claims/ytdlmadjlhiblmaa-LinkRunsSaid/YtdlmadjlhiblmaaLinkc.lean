/-
  Plain lemmas that close the walks of link's methods.
-/
import Derived.Test.YtdlmadjlhiblmaaLink2
namespace Go.Proofs.Ytdlmadjlhiblmaa
open Go.RowKit

/-- The head of an owned list that is not empty. -/
theorem OwnSl.head {w : World} {e : TypeId} {sz : Nat} {v : Value} {α : Type} {f : α → List Value} {x : α} {l : List α} (h : OwnSl w e sz v (x :: l).length (flat f (x :: l))) (hx : (f x).length = sz) :
    ∃ g off cap, v = .slice (some ⟨g, off, none⟩) (l.length + 1) cap ∧ 1 ≤ cap ∧ l.length + 1 ≤ cap ∧ CellsAt w g off (f x) ∧ g < w.heap.size ∧
      ∃ off', (cap = 1 ∧ l = [] ∧ off' = off ∨ ¬ cap = 1 ∧ off' = off + sz) ∧ OwnSl w e sz (.slice (some ⟨g, off', none⟩) l.length (cap - 1)) l.length (flat f l) := by
  obtain ⟨a, cap, rfl, hn⟩ := h.shape
  simp only [List.length_cons] at h hn
  obtain ⟨g, off, rfl, h1, ht⟩ := h.tail
  have hd : (flat f (x :: l)).drop sz = flat f l := by simp [flat, ← hx]
  rw [hd] at ht
  refine ⟨g, off, cap, rfl, h1, hn, ?_, h.lt g rfl, _, ?_, ht⟩
  case refine_2 =>
    by_cases hc : cap = 1
    · exact .inl ⟨hc, List.eq_nil_of_length_eq_zero (by omega), by simp [hc]⟩
    · exact .inr ⟨hc, by simp [hc]⟩
  intro j u hu
  obtain ⟨_, a, c, hv, _, _, hc⟩ := h.rd
  cases hv
  obtain ⟨g', off', he, hc⟩ := hc _ rfl
  cases he
  exact hc j u (by simp only [flat, List.flatMap_cons]; rw [List.getElem?_append_left (List.getElem?_eq_some_iff.1 hu).1]; exact hu)

/-- What is left where nothing but the link's own row has been written. -/
theorem LinkIs.close {w w' : World} {b : Nat} {F : Nat → Prop} {L L' : LinkS} {vo vf va vo' vf' va' : Value} (h : LinkIs w b F L vo vf va) (hm : Mod (fun k => k = b) w w')
    (row : w'.heap[b]? = some (.cells #[.int .i64 L'.epoch, vo', .int .i64 L'.base, vf', va', .int .i64 L'.want, .int .i64 L'.lost] 27 (0, 0)))
    (out : OwnSl w 38 17 vo' L'.out.length (flat LMsg.cells L'.out)) (flight : OwnSl w 55 19 vf' L'.flight.length (flat LPk.cells L'.flight)) (acks : OwnSl w 53 2 va' L'.acks.length (flat LAck.cells L'.acks))
    (bo : ∀ k, inBlock vo' k → inBlock vo k) (bf : ∀ k, inBlock vf' k → inBlock vf k) (ba : ∀ k, inBlock va' k → inBlock va k) (ok : L'.ok) : LinkTo w w' b F L' := by
  have hF := fun k => (h.foot k).2
  refine LinkTo.mk (hF b (.inl rfl)) row (out.mod hm fun k hk => out.ne h.row (by decide) k hk) (flight.mod hm fun k hk => flight.ne h.row (by decide) k hk) (acks.mod hm fun k hk => acks.ne h.row (by decide) k hk) ok
    (hm.mono fun k _ hk => hk ▸ hF b (.inl rfl)) (fun k hk => .inl (hF k (.inr (.inl (bo k hk))))) (fun k hk => .inl (hF k (.inr (.inr (.inl (bf k hk)))))) (fun k hk => .inl (hF k (.inr (.inr (.inr (ba k hk))))))

theorem if_addr {c : Prop} [Decidable c] (g a b : Nat) : (if c then some (⟨g, a, none⟩ : Addr) else some ⟨g, b, none⟩) = some ⟨g, if c then a else b, none⟩ := by split <;> rfl

theorem OwnSl.none_of {w : World} {e : TypeId} {sz : Nat} {v : Value} {xs : List Value} (h : OwnSl w e sz v 0 xs) : ∃ a cap, v = .slice a 0 cap := by
  obtain ⟨a, cap, h, _⟩ := h.shape
  exact ⟨a, cap, h⟩

/-- Behind the append onto the packets, and the store. -/
theorem LinkIs.sent {w w0 w2 : World} {b : Nat} {F : Nat → Prop} {L : LinkS} {vo vf va : Value} {p : LPk} {ad : Option Addr} {cap : Nat} (h : LinkIs w b F L vo vf va) (h0 : Mod (fun _ => False) w w0) (hp : p.msg.ok)
    (hA : Appended w0 55 19 vf 1 p.cells (.slice ad 1 cap) w2) :
    LinkTo w (w2.setCell ⟨b, 3, none⟩ (.slice ad 1 cap)) b F { L with flight := [p] } := by
  have hF := fun k => (h.foot k).2
  have i0 := h.mod h0 (by simp)
  have hsz : w.heap.size ≤ w0.heap.size := h0.size
  obtain ⟨a1, a2, a3⟩ := hA
  have r2 := a2.heap i0.row fun hi => i0.flight.ne i0.row (by decide) b hi rfl
  have oo2 := i0.out.mod a2 (i0.out.apart i0.flight (by decide))
  have oa2 := i0.acks.mod a2 (i0.acks.apart i0.flight (by decide))
  have hle : Mod F w w2 := (h0.mono (G := F) (fun _ _ h => h.elim)).trans a2 fun k _ hk => hF k (.inr (.inr (.inl hk)))
  refine LinkTo.mk (vo := vo) (vf := .slice ad 1 cap) (va := va) (hF b (.inl rfl)) (heap_set r2) (oo2.setCell (fun hi => oo2.ne r2 (by decide) b hi rfl) _) ?_ (oa2.setCell (fun hi => oa2.ne r2 (by decide) b hi rfl) _) ⟨h.ok.1, fun x hx => ?_⟩ (hle.setCell (fun _ => hF b (.inl rfl)) _)
    (fun k hk => .inl (hF k (.inr (.inl hk)))) (fun k hk => ?_) (fun k hk => .inl (hF k (.inr (.inr (.inr hk)))))
  · have := a1.setCell (a := ⟨b, 3, none⟩) (fun hi => a1.ne r2 (by decide) b hi rfl) (.slice ad 1 cap)
    simpa [flat] using this
  · simp at hx; subst hx; exact hp
  · rcases a3 with a3 | ⟨j, hj, hjs⟩
    · exact .inl (hF k (.inr (.inr (.inl (by unfold inBlock at hk ⊢; rw [← a3]; exact hk)))))
    · unfold inBlock at hk; rw [hj] at hk; cases hk; exact .inr (by omega)

/-- Behind the append onto the answers, and the store. -/
theorem LinkIs.acked {w w0 w2 : World} {b : Nat} {F : Nat → Prop} {L : LinkS} {vo vf va vf' : Value} {a : LAck} {ad : Option Addr} {cap want' : Nat} (h : LinkIs w b F L vo vf va) (h0 : Mod (fun k => k = b) w w0)
    (row0 : w0.heap[b]? = some (.cells #[.int .i64 L.epoch, vo, .int .i64 L.base, vf', va, .int .i64 want', .int .i64 L.lost] 27 (0, 0))) (fl : OwnSl w 55 19 vf' 0 []) (bf : ∀ k, inBlock vf' k → inBlock vf k)
    (hA : Appended w0 53 2 va 1 a.cells (.slice ad 1 cap) w2) :
    LinkTo w (w2.setCell ⟨b, 4, none⟩ (.slice ad 1 cap)) b F { L with flight := [], acks := [a], want := want' } := by
  have hF := fun k => (h.foot k).2
  have hsz : w.heap.size ≤ w0.heap.size := h0.size
  have o0 := h.out.mod h0 fun k hk => h.out.ne h.row (by decide) k hk
  have f0 := fl.mod h0 fun k hk => fl.ne h.row (by decide) k hk
  have k0 := h.acks.mod h0 fun k hk => h.acks.ne h.row (by decide) k hk
  obtain ⟨a1, a2, a3⟩ := hA
  have r2 := a2.heap row0 fun hi => k0.ne row0 (by decide) b hi rfl
  have oo2 := o0.mod a2 (o0.apart k0 (by decide))
  have of2 := f0.mod a2 (f0.apart k0 (by decide))
  have hle : Mod F w w2 := (h0.mono (G := F) (fun k _ hk => hk ▸ hF b (.inl rfl))).trans a2 fun k _ hk => hF k (.inr (.inr (.inr hk)))
  refine LinkTo.mk (vo := vo) (vf := vf') (va := .slice ad 1 cap) (hF b (.inl rfl)) (heap_set r2) (oo2.setCell (fun hi => oo2.ne r2 (by decide) b hi rfl) _) (of2.setCell (fun hi => of2.ne r2 (by decide) b hi rfl) _) ?_ ⟨h.ok.1, fun x hx => by simp at hx⟩ (hle.setCell (fun _ => hF b (.inl rfl)) _)
    (fun k hk => .inl (hF k (.inr (.inl hk)))) (fun k hk => .inl (hF k (.inr (.inr (.inl (bf k hk)))))) (fun k hk => ?_)
  · have := a1.setCell (a := ⟨b, 4, none⟩) (fun hi => a1.ne r2 (by decide) b hi rfl) (.slice ad 1 cap)
    simpa [flat] using this
  · rcases a3 with a3 | ⟨j, hj, hjs⟩
    · exact .inl (hF k (.inr (.inr (.inr (by unfold inBlock at hk ⊢; rw [← a3]; exact hk)))))
    · unfold inBlock at hk; rw [hj] at hk; cases hk; exact .inr (by omega)

end Go.Proofs.Ytdlmadjlhiblmaa
