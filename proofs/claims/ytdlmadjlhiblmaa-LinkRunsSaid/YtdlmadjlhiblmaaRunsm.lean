/-
  LinkRuns: what is held of the link, of what was pushed and of what was taken.
-/
import Derived.Test.YtdlmadjlhiblmaaDrain
import Derived.Deep.LoopGhost
namespace Go.Proofs.Ytdlmadjlhiblmaa
open Go.RowKit

/-- The queue is what was pushed behind what is done with; taken is what is done with, and the one that is under way if it was taken. -/
def Inv (a : LS) (P T : List Int) : Prop := a.q.map LMsg.at_ = P.drop a.base ∧ T = P.take (a.base + if a.got then 1 else 0) ∧ a.base ≤ P.length

theorem Inv.len {a : LS} {P T : List Int} (h : Inv a P T) : a.base + a.q.length = P.length := by
  have h1 := congrArg List.length h.1
  have h2 := h.2.2
  simp at h1
  omega
theorem Inv.taken {a : LS} {P T : List Int} (h : Inv a P T) (hg : a.Good) : T.length = a.base + (if a.got then 1 else 0) ∧ T.length ≤ P.length := by
  have hl := h.len
  obtain ⟨-, rfl, hb⟩ := h
  have : a.base + (if a.got then 1 else 0) ≤ P.length := by
    cases hgot : a.got with
    | false => simpa using hb
    | true =>
      have : a.q ≠ [] := fun hq => by have := (hg.1 hq).2; rw [hgot] at this; cases this
      have := List.length_pos_iff.2 this
      simp
      omega
  rw [List.length_take]
  omega
theorem Inv.get {a : LS} {P T : List Int} (h : Inv a P T) {i : Nat} (hi : i < T.length) : P[i]? = T[i]? := by
  obtain ⟨-, rfl, -⟩ := h
  rw [List.getElem?_take, if_pos (by simp at hi; omega)]

theorem Inv.quiet {a : LS} {P T : List Int} (h : Inv a P T) (hg : a.Good) (hn : a.asks = none) : Inv a.next P T := by
  have hl := h.len
  obtain ⟨ep, q, ph, got, base, lost⟩ := a
  obtain ⟨h1, h2, h3⟩ := h
  obtain ⟨g1, g2, -⟩ := hg
  cases ph with
  | wait => cases q <;> exact ⟨h1, h2, h3⟩
  | sent =>
    cases q with
    | nil => have := (g1 rfl).1; cases this
    | cons m q =>
      cases got with
      | false => cases hn
      | true => exact ⟨h1, h2, h3⟩
  | back =>
    cases q with
    | nil => have := (g1 rfl).1; cases this
    | cons m q =>
      obtain rfl : got = true := g2 rfl
      simp only [List.length_cons] at hl
      refine ⟨?_, by simpa [LS.next] using h2, by simp [LS.next]; omega⟩
      have h1' : m.at_ :: q.map LMsg.at_ = P.drop base := h1
      show q.map LMsg.at_ = P.drop (base + 1)
      rw [← List.drop_drop, ← h1']
      rfl
theorem Inv.take {a : LS} {P T : List Int} (h : Inv a P T) {m : LMsg} (hn : a.asks = some m) : Inv a.next P (T ++ [m.at_]) := by
  have hl := h.len
  obtain ⟨ep, q, ph, got, base, lost⟩ := a
  obtain ⟨h1, h2, h3⟩ := h
  cases ph <;> cases got <;> cases q <;> simp [LS.asks] at hn
  subst hn
  rename_i m q
  have h1' : m.at_ :: q.map LMsg.at_ = P.drop base := h1
  simp only [List.length_cons] at hl
  have hb : base < P.length := by omega
  refine ⟨h1, ?_, h3⟩
  have h2' : T = P.take base := by simpa using h2
  have hP : P.drop base = P[base] :: P.drop (base + 1) := List.drop_eq_getElem_cons hb
  rw [hP] at h1'
  show T ++ [m.at_] = P.take (base + 1)
  rw [List.take_succ_eq_append_getElem hb, h2', (List.cons.inj h1').1]
theorem Inv.push {a : LS} {P T : List Int} (h : Inv a P T) (hg : a.Good) (m : LMsg) : Inv { a with q := a.q ++ [m] } (P ++ [m.at_]) T := by
  have ht := h.taken hg
  obtain ⟨h1, h2, h3⟩ := h
  refine ⟨?_, ?_, by simp; omega⟩
  · show (a.q ++ [m]).map LMsg.at_ = (P ++ [m.at_]).drop a.base
    rw [List.map_append, h1, List.drop_append_of_le_length h3]
    rfl
  · show T = (P ++ [m.at_]).take (a.base + if a.got then 1 else 0)
    rw [List.take_append_of_le_length (by omega)]
    exact h2

/-- Steps that are still to be done. -/
def LS.todo (a : LS) : Nat := 3 * a.q.length - match a.ph with | .wait => 0 | .sent => 1 | .back => 2
theorem LS.todo_next {a : LS} (hg : a.Good) : a.next.todo = a.todo - 1 := by
  obtain ⟨ep, q, ph, got, base, lost⟩ := a
  obtain ⟨g1, g2, -⟩ := hg
  cases ph <;> cases q <;> simp_all [LS.todo, LS.next] <;> omega
theorem Inv.done {a : LS} {P T : List Int} (h : Inv a P T) (hg : a.Good) (h0 : a.todo = 0) : a.q = [] ∧ T = P := by
  have hl := h.len
  have hq : a.q = [] := by
    obtain ⟨ep, q, ph, got, base, lost⟩ := a
    cases q with
    | nil => rfl
    | cons m q => cases ph <;> simp [LS.todo] at h0 <;> omega
  refine ⟨hq, ?_⟩
  rw [h.2.1, (hg.1 hq).2]
  rw [hq] at hl
  simp at hl
  simp [hl]

/-- Numbers as cells. -/
def ints (l : List Int) : List Value := l.map fun n => .int .i64 n
theorem ints_length (l : List Int) : (ints l).length = l.length := by simp [ints]
theorem ints_snoc (l : List Int) (x : Int) : ints (l ++ [x]) = ints l ++ [.int .i64 x] := by simp [ints]
theorem ints_T : SliceT Try.prog 47 3 1 8 := sliceT (by kernel_rfl) (by kernel_rfl)

/-- The link, the variable that a closure captured, the slice of what was pushed: apart. -/
structure Two (w0 w : World) (b c : Nat) (a : LS) (P T : List Int) (pv : Value) : Prop where
  own : Own w0 w b a
  cell : ∃ tv, w.heap[c]? = some (.cells #[tv] 47 (0, 0)) ∧ OwnSl w 3 1 tv T.length (ints T) ∧ (∀ k, inBlock tv k → w0.heap.size ≤ k ∧ ¬ inBlock pv k)
  pushed : OwnSl w 3 1 pv P.length (ints P)
  pnew : ∀ k, inBlock pv k → w0.heap.size ≤ k
  cnew : w0.heap.size ≤ c

theorem ints_apart : 47 ≠ 27 ∧ 47 ≠ 38 ∧ 47 ≠ 55 ∧ 47 ≠ 53 := by decide

section
variable {w0 w w' : World} {b c : Nat} {a a' : LS} {P T : List Int} {pv : Value}

theorem OwnSl.kept {v : Value} {n : Nat} {xs : List Value} (h : OwnSl w 3 1 v n xs) (hk : Kept w w') : OwnSl w' 3 1 v n xs :=
  h.of_block fun k hb => by
    obtain ⟨cur, hc⟩ := h.elem k hb
    rw [hk _ _ _ _ hc int_apart, hc]

theorem Two.link (h : Two w0 w b c a P T pv) (ho : Own w0 w' b a') (hk : Kept w w') : Two w0 w' b c a' P T pv := by
  obtain ⟨tv, h1, h2, h3⟩ := h.cell
  exact ⟨ho, ⟨tv, hk _ _ _ _ h1 ints_apart, h2.kept hk, h3⟩, h.pushed.kept hk, h.pnew, h.cnew⟩

theorem Two.new (h : Two w0 w b c a P T pv) (hm : Mod (fun _ => False) w w') : Two w0 w' b c a P T pv := by
  obtain ⟨tv, h1, h2, h3⟩ := h.cell
  exact ⟨h.own.new hm, ⟨tv, hm.heap h1 (by simp), h2.mod hm (by simp), h3⟩, h.pushed.mod hm (by simp), h.pnew, h.cnew⟩
theorem Two.drewN (h : Two w0 w b c a P T pv) (n : Nat) : Two w0 (w.drewN n) b c a P T pv := h.new ((Mod.refl _ w).drewN n)

theorem OwnSl.off {e e' : TypeId} {v : Value} {n sz : Nat} {xs : List Value} (h : OwnSl w e sz v n xs) {x : Array Value} {f : Nat × Nat} (hc : w.heap[c]? = some (.cells x e' f)) (he : e' ≠ e) : ¬ inBlock v c := fun hi => by
  obtain ⟨cur, hk⟩ := h.elem c hi
  rw [hc] at hk
  cases hk
  exact he rfl

theorem LinkAt.notSl {F : Nat → Prop} {L : LinkS} (h : LinkAt w b F L) {v : Value} {n : Nat} {xs : List Value} (hv : OwnSl w 3 1 v n xs) : ∀ k, F k → ¬ inBlock v k := fun k hF hi => by
  obtain ⟨cur, hc⟩ := hv.elem k hi
  exact h.notF hc int_apart hF

/-- A number is appended to what was pushed. -/
theorem Two.append (h : Two w0 w b c a P T pv) {x : Int} {pv' : Value} (hA : Appended w 3 1 pv (P.length + 1) (ints P ++ [.int .i64 x]) pv' w') : Two w0 w' b c a (P ++ [x]) T pv' := by
  obtain ⟨tv, h1, h2, h3⟩ := h.cell
  obtain ⟨hA1, hA2, hA3⟩ := hA
  have hbs := h.own.below.size
  have hnew : ∀ k, inBlock pv' k → inBlock pv k ∨ w.heap.size ≤ k := fun k hk => by
    rcases hA3 with hA3 | ⟨k', h4, h5⟩
    · left; unfold inBlock at hk ⊢; rw [← hA3]; exact hk
    · right; unfold inBlock at hk; rw [h4] at hk; cases hk; exact h5
  obtain ⟨F, hF1, hF2⟩ := h.own.at_
  refine ⟨⟨⟨F, hF1.mod hA2 (hF1.notSl h.pushed), hF2⟩, h.own.good, h.own.below.trans (hA2.below (fun k hk hi => by have := h.pnew k hi; omega) hbs)⟩, ⟨tv, hA2.heap h1 (h.pushed.off h1 (by decide)), h2.mod hA2 (fun k hk => (h3 k hk).2), fun k hk => ⟨(h3 k hk).1, fun hp => ?_⟩⟩, ?_, fun k hk => ?_, h.cnew⟩
  · rcases hnew k hp with hp | hp
    · exact (h3 k hk).2 hp
    · have := h2.lt k hk; omega
  · rw [List.length_append, ints_snoc]; exact hA1
  · rcases hnew k hk with hp | hp
    · exact h.pnew k hp
    · omega

/-- What was taken has one more. -/
theorem Two.took (h : Two w0 w b c a P T pv) {tv tv' : Value} {x : Int} (h1 : w.heap[c]? = some (.cells #[tv] 47 (0, 0))) (h4 : w'.heap[c]? = some (.cells #[tv'] 47 (0, 0))) (h5 : OwnSl w' 3 1 tv' (T.length + 1) (ints (T ++ [x])))
    (hm : Mod (fun k => k = c ∨ inBlock tv k) w w') (h6 : tv'.ownBlock = tv.ownBlock ∨ ∃ k, tv'.ownBlock = some k ∧ w.heap.size ≤ k) : Two w0 w' b c a P (T ++ [x]) pv := by
  obtain ⟨tv0, h1', h2, h3⟩ := h.cell
  rw [h1] at h1'
  cases h1'
  have hbs := h.own.below.size
  obtain ⟨F, hF1, hF2⟩ := h.own.at_
  have hFn : ∀ k, F k → ¬ (k = c ∨ inBlock tv k) := fun k hk hi => by
    rcases hi with rfl | hi
    · exact hF1.notF h1 ints_apart hk
    · exact hF1.notSl h2 k hk hi
  have hp : ∀ k, inBlock pv k → ¬ (k = c ∨ inBlock tv k) := fun k hk hi => by
    rcases hi with rfl | hi
    · exact h.pushed.off h1 (by decide) hk
    · exact (h3 k hi).2 hk
  refine ⟨⟨⟨F, hF1.mod hm hFn, hF2⟩, h.own.good, h.own.below.trans (hm.below (fun k hk hi => ?_) hbs)⟩, ⟨tv', h4, by rw [List.length_append]; exact h5, fun k hk => ?_⟩, h.pushed.mod hm hp, h.pnew, h.cnew⟩
  · rcases hi with rfl | hi
    · have := h.cnew; omega
    · have := (h3 k hi).1; omega
  · rcases h6 with h6 | ⟨k', h6, h7⟩
    · have : inBlock tv k := by unfold inBlock at hk ⊢; rw [← h6]; exact hk
      exact h3 k this
    · unfold inBlock at hk
      rw [h6] at hk
      cases hk
      exact ⟨by omega, fun hi => by have := h.pushed.lt _ hi; omega⟩
end

/-- A take that appends the message's place to the slice that it captured. -/
def Takes (ft : Nat) : Prop := ∀ (c : Nat) (tv : Value) (T : List Int) (m : LMsg) (w : World), w.heap[c]? = some (.cells #[tv] 47 (0, 0)) → OwnSl w 3 1 tv T.length (ints T) → T.length ≤ 100000 →
  Calls Try.prog ft #[.agg m.cells.toArray, .pointer (some ⟨c, 0, none⟩)] w fun e w' => e = .returned (.bool true) ∧ ∃ tv', w'.heap[c]? = some (.cells #[tv'] 47 (0, 0)) ∧ OwnSl w' 3 1 tv' (T.length + 1) (ints (T ++ [m.at_])) ∧
    Mod (fun k => k = c ∨ inBlock tv k) w w' ∧ (tv'.ownBlock = tv.ownBlock ∨ ∃ k, tv'.ownBlock = some k ∧ w.heap.size ≤ k)

/-- STEP with such a take. -/
theorem step_two {w0 w : World} {b c : Nat} {a : LS} {P T : List Int} {pv : Value} (h : Two w0 w b c a P T pv) (hi : Inv a P T) (hb : a.base ≤ 1000) (hP : P.length ≤ 1000) (ft : Nat)
    (hcf : ∀ (args : Array Value) (W : World), Sem.run Try.prog (callFunc ft args) W = .ok (.enter ft args) W) (htk : Takes ft) :
    Calls Try.prog 10 #[.pointer (some ⟨b, 0, none⟩), .func (.func ft) #[] #[.pointer (some ⟨c, 0, none⟩)]] w fun e w' => e = .returned (.bool (!a.q.isEmpty)) ∧ ∃ T', Two w0 w' b c a.next P T' pv ∧ Inv a.next P T' := by
  obtain ⟨F, hF1, hF2⟩ := h.own.at_
  have hg := h.own.good
  have hgn := hg.next (by omega)
  have hTl := (hi.taken hg).2
  refine (step_all b F a ft #[.pointer (some ⟨c, 0, none⟩)] w hF1 hg (fun r w2 => r = true ∧ ∀ m, a.asks = some m → Two w0 w2 b c a P (T ++ [m.at_]) pv) hcf (fun m hm w1 hL1 hm1 => ?_)).mono fun e w' hp => ?_
  · have h1 := h.new hm1
    obtain ⟨tv, hc1, hs1, hd1⟩ := h1.cell
    refine (htk c tv T m w1 hc1 hs1 (by omega)).mono fun e w2 ⟨he, tv', h4, h5, h6, h7⟩ => ⟨true, he, ?_, ⟨rfl, fun m' hm' => ?_⟩, fun k y hk => h6.heap hk ?_⟩
    · exact hL1.mod h6 fun k hk hi' => by
        rcases hi' with rfl | hi'
        · exact hL1.notF hc1 ints_apart hk
        · exact hL1.notSl hs1 k hk hi'
    · rw [hm] at hm'
      cases hm'
      exact h1.took hc1 h4 h5 h6 h7
    · rintro (rfl | hi')
      · rw [hk] at hc1; cases hc1
      · obtain ⟨cur, hc⟩ := hs1.elem k hi'; rw [hk] at hc; cases hc
  · rcases hp with ⟨p1, p2, p3⟩ | ⟨m, p1, ⟨p2, p3, p4, p5⟩ | ⟨p2, w2, ⟨p4, p5⟩, p7, p8⟩⟩
    · exact ⟨p2, T, h.link (h.own.next hF2 p3 hgn) (p3.kept hF1), hi.quiet hg p1⟩
    · cases p4
    · have h2 := p5 m p1
      refine ⟨?_, T ++ [m.at_], h2.link (h2.own.next hF2 p8 hgn) (p8.kept p7), hi.take p1⟩
      have : a.q.isEmpty = false := by
        obtain ⟨ep, q, ph, got, base, lost⟩ := a
        cases ph <;> cases got <;> cases q <;> simp [LS.asks] at p1 <;> rfl
      rw [p2, this]
      rfl

/-- STEP with a take that takes nothing. -/
theorem step_no {w0 w : World} {b c : Nat} {a : LS} {P T : List Int} {pv : Value} (h : Two w0 w b c a P T pv) (hi : Inv a P T) (hb : a.base ≤ 1000) (ft : Nat)
    (hcf : ∀ (args : Array Value) (W : World), Sem.run Try.prog (callFunc ft args) W = .ok (.enter ft args) W)
    (htk : ∀ (m : LMsg) (w : World), Calls Try.prog ft #[.agg m.cells.toArray] w fun e w' => e = .returned (.bool false) ∧ Mod (fun _ => False) w w') :
    Calls Try.prog 10 #[.pointer (some ⟨b, 0, none⟩), .func (.func ft) #[] #[]] w fun e w' => ∃ r a', e = .returned (.bool r) ∧ Two w0 w' b c a' P T pv ∧ Inv a' P T ∧ a'.epoch = a.epoch ∧ a'.lost = a.lost := by
  obtain ⟨F, hF1, hF2⟩ := h.own.at_
  have hg := h.own.good
  have hgn := hg.next (by omega)
  refine (step_all b F a ft #[] w hF1 hg (fun r w2 => r = false ∧ Two w0 w2 b c a P T pv) hcf (fun m hm w1 hL1 hm1 => ?_)).mono fun e w' hp => ?_
  · refine (htk m w1).mono fun e w2 ⟨he, h4⟩ => ⟨false, he, (take_none hL1 h4).1, ⟨rfl, (h.new hm1).new h4⟩, (take_none hL1 h4).2⟩
  · rcases hp with ⟨p1, p2, p3⟩ | ⟨m, p1, ⟨p2, p3, p4, p5⟩ | ⟨p2, w2, ⟨p4, p5⟩, p7, p8⟩⟩
    · refine ⟨_, _, p2, h.link (h.own.next hF2 p3 hgn) (p3.kept hF1), hi.quiet hg p1, ?_⟩
      obtain ⟨ep, q, ph, got, base, lost⟩ := a
      cases ph <;> cases q <;> exact ⟨rfl, rfl⟩
    · exact ⟨_, _, p2, p5, hi, rfl, rfl⟩
    · cases p4
theorem LS.next_same (a : LS) : a.next.epoch = a.epoch ∧ a.next.lost = a.lost := by
  obtain ⟨ep, q, ph, got, base, lost⟩ := a
  cases ph <;> cases q <;> exact ⟨rfl, rfl⟩
end Go.Proofs.Ytdlmadjlhiblmaa
