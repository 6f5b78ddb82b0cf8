/-
  The states that a link comes through, and Step as one law over them.
-/
import Derived.Test.YtdlmadjlhiblmaaLink3
import Derived.Test.YtdlmadjlhiblmaaLink4
import Derived.Test.YtdlmadjlhiblmaaLink5
import Derived.Test.YtdlmadjlhiblmaaLink6
import Derived.Test.YtdlmadjlhiblmaaLink7
import Derived.Laws.Bits128
namespace Go.Proofs.Ytdlmadjlhiblmaa
open Go.RowKit

/-- Where the first message is: it waits; its packet is on its way; an answer is. -/
inductive Ph where
  | wait | sent | back
deriving DecidableEq

structure LS where
  epoch : Nat
  q : List LMsg
  ph : Ph
  got : Bool
  base : Nat
  lost : Nat

def LS.toL (a : LS) : LinkS where
  epoch := a.epoch
  out := a.q
  base := a.base
  flight := match a.ph, a.q with | .sent, m :: _ => [⟨a.epoch, a.base, m⟩] | _, _ => []
  acks := match a.ph with | .back => [⟨a.epoch, a.base⟩] | _ => []
  want := a.base + if a.got then 1 else 0
  lost := a.lost

/-- What holds of all of them. -/
def LS.Good (a : LS) : Prop := (a.q = [] → a.ph = .wait ∧ a.got = false) ∧ (a.ph = .back → a.got = true) ∧ a.base ≤ 4611686018427387000

/-- The message that is asked for. -/
def LS.asks (a : LS) : Option LMsg := match a.ph, a.got, a.q with | .sent, false, m :: _ => some m | _, _, _ => none
def LS.next (a : LS) : LS := match a.ph, a.q with
  | .wait, [] => a
  | .wait, _ :: _ => { a with ph := .sent }
  | .sent, _ => { a with ph := .back, got := true }
  | .back, q => { a with q := q.tail, ph := .wait, got := false, base := a.base + 1 }

theorem LinkTo.refl {w : World} {b : Nat} {F : Nat → Prop} {L : LinkS} (h : LinkAt w b F L) : LinkTo w w b F L := ⟨F, h, Mod.refl F w, fun _ h => .inl h⟩

/-- STEP. -/
theorem step_all (b : Nat) (F : Nat → Prop) (a : LS) (ft : Nat) (cap : Array Value) (w : World) (h : LinkAt w b F a.toL) (hg : a.Good)
    (R : Bool → World → Prop) (hcf : ∀ (args : Array Value) (W : World), Sem.run Try.prog (callFunc ft args) W = .ok (.enter ft args) W)
    (ht : ∀ m, a.asks = some m → ∀ w1, LinkAt w1 b F a.toL → Mod (fun _ => False) w w1 → Calls Try.prog ft (#[.agg m.cells.toArray] ++ cap) w1 fun e w2 => ∃ r, e = .returned (.bool r) ∧ LinkAt w2 b F a.toL ∧ R r w2 ∧
      (∀ (k : Nat) (c : Array Value), w1.heap[k]? = some (Obj.cells c 55 (0, 0)) → w2.heap[k]? = some (Obj.cells c 55 (0, 0)))) :
    Calls Try.prog 10 #[.pointer (some ⟨b, 0, none⟩), .func (.func ft) #[] cap] w fun e w' =>
      (a.asks = none ∧ e = .returned (.bool (!a.q.isEmpty)) ∧ LinkTo w w' b F a.next.toL) ∨
      (∃ m, a.asks = some m ∧ ((e = .returned (.bool false) ∧ LinkAt w' b F a.toL ∧ R false w') ∨ (e = .returned (.bool true) ∧ ∃ w2, R true w2 ∧ LinkAt w2 b F a.toL ∧ LinkTo w2 w' b F a.next.toL))) := by
  obtain ⟨ep, q, ph, got, base, lost⟩ := a
  obtain ⟨g1, g2, g3⟩ := hg
  have g3 : base ≤ 4611686018427387000 := g3
  cases ph with
  | wait =>
    cases q with
    | nil =>
      refine (step_idle b F _ _ w h rfl rfl rfl).mono fun e w' ⟨he, hw⟩ => .inl ⟨rfl, he, ?_⟩
      subst hw
      exact LinkTo.refl h
    | cons m q => exact (step_send b F _ _ w h rfl rfl m q rfl).mono fun e w' ⟨he, hl⟩ => .inl ⟨rfl, he, hl⟩
  | sent =>
    cases q with
    | nil => have := (g1 rfl).1; cases this
    | cons m q =>
      cases got with
      | false => exact (step_take b F _ ft cap w h rfl ⟨ep, base, m⟩ rfl rfl rfl (by simp [LS.toL]; omega) R hcf (ht m rfl)).mono fun e w' hl => .inr ⟨m, rfl, hl⟩
      | true => exact (step_dup b F _ _ w h rfl ⟨ep, base, m⟩ rfl rfl (by simp [LS.toL])).mono fun e w' ⟨he, hl⟩ => .inl ⟨rfl, he, hl⟩
  | back =>
    cases q with
    | nil => have := (g1 rfl).1; cases this
    | cons m q =>
      obtain rfl : got = true := g2 rfl
      exact (step_ack b F _ ⟨ep, base⟩ [] _ w h rfl (by simp [LS.toL]; omega) m q rfl rfl rfl).mono fun e w' ⟨he, hl⟩ => .inl ⟨rfl, he, hl⟩

/-- Messages as a literal makes them. -/
def zrest : List Value := [.int .i64 0, .int .i64 0, .string ⟨#[]⟩, .int .i64 0, .string ⟨#[]⟩, .slice none 0 0, .string ⟨#[]⟩, .int .i64 0, .string ⟨#[]⟩, .slice none 0 0, .string ⟨#[]⟩, .slice none 0 0, .int .i64 0, .string ⟨#[]⟩, .int .i64 0]
def zmsg (k a : Int) : LMsg := ⟨k, a, zrest⟩
theorem zmsg_arr (k a : Int) : (zmsg k a).cells.toArray = #[.int .i64 k, .int .i64 a, .int .i64 0, .int .i64 0, .string ⟨#[]⟩, .int .i64 0, .string ⟨#[]⟩, .slice none 0 0, .string ⟨#[]⟩, .int .i64 0, .string ⟨#[]⟩, .slice none 0 0, .string ⟨#[]⟩, .slice none 0 0, .int .i64 0, .string ⟨#[]⟩, .int .i64 0] := rfl
theorem zmsg_ok {k a : Int} (hk : 0 ≤ k ∧ k ≤ 4294967296) (ha : 0 ≤ a ∧ a ≤ 4294967296) : (zmsg k a).ok := by
  refine ⟨rfl, ?_, ?_, ?_⟩
  · exact fun u hu => List.all_eq_true.1 (show zrest.all (·.oneCell') = true from rfl) u hu
  · simp [zmsg, Lit.wf, IntKind.min, IntKind.max, IntKind.signed, IntKind.bits]; omega
  · simp [zmsg, Lit.wf, IntKind.min, IntKind.max, IntKind.signed, IntKind.bits]; omega

/-- A link that has just been made. -/
def LS.zero : LS := ⟨0, [], .wait, false, 0, 0⟩
theorem link_new (w : World) : ∃ F, LinkAt (w.alloc (.cells #[.int .i64 0, .slice none 0 0, .int .i64 0, .slice none 0 0, .slice none 0 0, .int .i64 0, .int .i64 0] 27)) w.heap.size F LS.zero.toL ∧ ∀ k, F k → w.heap.size ≤ k := by
  refine ⟨_, ⟨.slice none 0 0, .slice none 0 0, .slice none 0 0, ⟨heap_alloc_new w _, OwnSl.nil _ _ _, OwnSl.nil _ _ _, OwnSl.nil _ _ _, fun k => Iff.rfl, ⟨fun m hm => (by simp [LS.zero, LS.toL] at hm), fun m hm => (by simp [LS.zero, LS.toL] at hm)⟩⟩⟩, fun k hk => ?_⟩
  rcases hk with rfl | hk | hk | hk
  · exact Nat.le_refl _
  all_goals simp [inBlock, Value.ownBlock] at hk

/-- PUSH. -/
theorem push_all (b : Nat) (F : Nat → Prop) (a : LS) (m : LMsg) (w : World) (h : LinkAt w b F a.toL) (hg : a.Good) (hm : m.ok) (hlen : a.q.length ≤ 4294967296) (hl : a.lost ≤ 4294967296) :
    Calls Try.prog 9 #[.pointer (some ⟨b, 0, none⟩), .agg m.cells.toArray] w fun e w' =>
      (¬ (m.kind = 3 ∧ 6 ≤ evCount a.q) ∧ e = .returned (.bool true) ∧ LinkTo w w' b F { a with q := a.q ++ [m] }.toL) ∨
      ((m.kind = 3 ∧ 6 ≤ evCount a.q) ∧ e = .returned (.bool false) ∧ LinkTo w w' b F { a with lost := a.lost + 1 }.toL) := by
  by_cases hc : m.kind = 3 ∧ 6 ≤ evCount a.q
  · exact (push_full b F _ m w h hc.1 hc.2 (by simp [LS.toL]; omega)).mono fun e w' ⟨he, hl⟩ => .inr ⟨hc, he, hl⟩
  · refine (push_ok b F _ m w h hm (by by_cases hk : m.kind = 3; exact .inr (by have := fun h => hc ⟨hk, h⟩; simp only [LS.toL]; omega); exact .inl hk) (by simpa [LS.toL] using hlen)).mono fun e w' ⟨he, hl⟩ => .inl ⟨hc, he, ?_⟩
    obtain ⟨ep, q, ph, got, base, lost⟩ := a
    have : ({ ({ epoch := ep, q := q, ph := ph, got := got, base := base, lost := lost } : LS).toL with out := q ++ [m] } : LinkS) = ({ epoch := ep, q := q ++ [m], ph := ph, got := got, base := base, lost := lost } : LS).toL := by
      cases ph <;> cases q <;> simp [LS.toL]
      have := (hg.1 rfl).1
      cases this
    exact this ▸ hl

theorem i64_mask63 (n : Int) : bits .and .i64 n 63 = n % 64 := by
  have h127 : (BitVec.ofInt 64 63).toNat = 2 ^ 6 - 1 := by decide
  have key : (BitVec.ofInt 64 n &&& BitVec.ofInt 64 63).toNat = (n % ((2 ^ 64 : Nat) : Int)).toNat % 2 ^ 6 := by
    rw [BitVec.toNat_and, BitVec.toNat_ofInt, h127, Nat.and_two_pow_sub_one_eq_mod]
  show IntKind.i64.wrap ((BitVec.ofInt 64 n &&& BitVec.ofInt 64 63).toNat : Nat) = n % 64
  rw [key, IntKind.wrap_i64]
  omega
theorem i64_mask31 (n : Int) : bits .and .i64 n 31 = n % 32 := by
  have h127 : (BitVec.ofInt 64 31).toNat = 2 ^ 5 - 1 := by decide
  have key : (BitVec.ofInt 64 n &&& BitVec.ofInt 64 31).toNat = (n % ((2 ^ 64 : Nat) : Int)).toNat % 2 ^ 5 := by
    rw [BitVec.toNat_and, BitVec.toNat_ofInt, h127, Nat.and_two_pow_sub_one_eq_mod]
  show IntKind.i64.wrap ((BitVec.ofInt 64 n &&& BitVec.ofInt 64 31).toNat : Nat) = n % 32
  rw [key, IntKind.wrap_i64]
  omega
theorem i64_mask15 (n : Int) : bits .and .i64 n 15 = n % 16 := by
  have h127 : (BitVec.ofInt 64 15).toNat = 2 ^ 4 - 1 := by decide
  have key : (BitVec.ofInt 64 n &&& BitVec.ofInt 64 15).toNat = (n % ((2 ^ 64 : Nat) : Int)).toNat % 2 ^ 4 := by
    rw [BitVec.toNat_and, BitVec.toNat_ofInt, h127, Nat.and_two_pow_sub_one_eq_mod]
  show IntKind.i64.wrap ((BitVec.ofInt 64 n &&& BitVec.ofInt 64 15).toNat : Nat) = n % 16
  rw [key, IntKind.wrap_i64]
  omega
theorem i64_mask7 (n : Int) : bits .and .i64 n 7 = n % 8 := by
  have h127 : (BitVec.ofInt 64 7).toNat = 2 ^ 3 - 1 := by decide
  have key : (BitVec.ofInt 64 n &&& BitVec.ofInt 64 7).toNat = (n % ((2 ^ 64 : Nat) : Int)).toNat % 2 ^ 3 := by
    rw [BitVec.toNat_and, BitVec.toNat_ofInt, h127, Nat.and_two_pow_sub_one_eq_mod]
  show IntKind.i64.wrap ((BitVec.ofInt 64 n &&& BitVec.ofInt 64 7).toNat : Nat) = n % 8
  rw [key, IntKind.wrap_i64]
  omega

/-- A call of a closure that captured cells of its own is the call of its function. -/
theorem LinkTo.apart {w w' : World} {b : Nat} {F : Nat → Prop} {L : LinkS} (h : LinkTo w w' b F L) {k : Nat} {o : Obj} (ho : w.heap[k]? = some o) (hn : ¬ F k) : w'.heap[k]? = some o := by
  obtain ⟨F', _, h2, _⟩ := h
  exact h2.heap ho hn

/-- A block of another make is none of a link's. -/
theorem LinkAt.notF {w : World} {b : Nat} {F : Nat → Prop} {L : LinkS} (h : LinkAt w b F L) {k : Nat} {cs : Array Value} {e : TypeId} {f : Nat × Nat} (hk : w.heap[k]? = some (.cells cs e f))
    (he : e ≠ 27 ∧ e ≠ 38 ∧ e ≠ 55 ∧ e ≠ 53) : ¬ F k := by
  intro hF
  obtain ⟨cur, e', hc, h'⟩ := h.elem k hF
  rw [hk] at hc
  cases hc
  rcases h' with h' | h' | h' | h'
  · exact he.1 h'
  · exact he.2.1 h'
  · exact he.2.2.1 h'
  · exact he.2.2.2 h'
/-- What a take that writes its own captured variable alone leaves of a link. -/
theorem take_post {w1 w2 : World} {b c : Nat} {F : Nat → Prop} {L : LinkS} (hL : LinkAt w1 b F L) {x : Array Value} {e : TypeId} {f : Nat × Nat} (hc : w1.heap[c]? = some (.cells x e f))
    (he : e ≠ 27 ∧ e ≠ 38 ∧ e ≠ 55 ∧ e ≠ 53) (hm : Mod (fun k => k = c) w1 w2) :
    LinkAt w2 b F L ∧ (∀ (k : Nat) (y : Array Value), w1.heap[k]? = some (Obj.cells y 55 (0, 0)) → w2.heap[k]? = some (Obj.cells y 55 (0, 0))) := by
  have hn := hL.notF hc he
  refine ⟨hL.mod hm fun k hk hkc => hn (hkc ▸ hk), fun k y hk => hm.heap hk fun hkc => ?_⟩
  subst hkc
  rw [hk] at hc
  cases hc
  exact he.2.2.1 rfl

theorem take_none {w1 w2 : World} {b : Nat} {F : Nat → Prop} {L : LinkS} (hL : LinkAt w1 b F L) (hm : Mod (fun _ => False) w1 w2) :
    LinkAt w2 b F L ∧ (∀ (k : Nat) (y : Array Value), w1.heap[k]? = some (Obj.cells y 55 (0, 0)) → w2.heap[k]? = some (Obj.cells y 55 (0, 0))) :=
  ⟨hL.mod hm (by simp), fun _ _ hk => hm.heap hk (by simp)⟩

/-- A link of the call's own, and nothing older written. -/
structure Own (w0 w : World) (b : Nat) (a : LS) : Prop where
  at_ : ∃ F, LinkAt w b F a.toL ∧ ∀ k, F k → w0.heap.size ≤ k
  good : a.Good
  below : Below w0.heap.size w0 w

theorem Own.next {w0 w w' : World} {b : Nat} {a a' : LS} (h : Own w0 w b a) {F : Nat → Prop} (hF : ∀ k, F k → w0.heap.size ≤ k) (hl : LinkTo w w' b F a'.toL) (hg : a'.Good) : Own w0 w' b a' := by
  obtain ⟨F', h1, h2, h3⟩ := hl
  have hs := h.below.size
  exact ⟨⟨F', h1, fun k hk => (h3 k hk).elim (hF k) (fun h => by omega)⟩, hg, h.below.trans (h2.below (fun k hk hF' => by have := hF k hF'; omega) hs)⟩

theorem Own.mod {w0 w w' : World} {b c : Nat} {a : LS} (h : Own w0 w b a) {x : Array Value} {e : TypeId} {f : Nat × Nat} (hc : w.heap[c]? = some (.cells x e f))
    (he : e ≠ 27 ∧ e ≠ 38 ∧ e ≠ 55 ∧ e ≠ 53) (hcb : w0.heap.size ≤ c) (hm : Mod (fun k => k = c) w w') : Own w0 w' b a := by
  obtain ⟨⟨F, h1, h2⟩, hg, hb⟩ := h
  exact ⟨⟨F, (take_post h1 hc he hm).1, h2⟩, hg, hb.trans (hm.below (fun k hk e => by omega) hb.size)⟩

theorem Own.new {w0 w w' : World} {b : Nat} {a : LS} (h : Own w0 w b a) (hm : Mod (fun _ => False) w w') : Own w0 w' b a := by
  obtain ⟨⟨F, h1, h2⟩, hg, hb⟩ := h
  exact ⟨⟨F, h1.mod hm (by simp), h2⟩, hg, hb.trans (hm.below (fun k _ h => h) hb.size)⟩

theorem own_new (w : World) : Own w (w.alloc (.cells #[.int .i64 0, .slice none 0 0, .int .i64 0, .slice none 0 0, .slice none 0 0, .int .i64 0, .int .i64 0] 27)) w.heap.size LS.zero := by
  obtain ⟨F, h1, h2⟩ := link_new w
  exact ⟨⟨F, h1, h2⟩, ⟨fun _ => ⟨rfl, rfl⟩, fun h => (by cases h), by simp [LS.zero]⟩, (Below.refl _ _).alloc (Nat.le_refl _) _⟩

/-- STEP, over a link of the call's own and one captured variable of the call's own. -/
theorem step_own (w0 : World) (b c : Nat) (a : LS) (ft : Nat) (x : Array Value) (e : TypeId) (w : World) (h : Own w0 w b a) (hc : w.heap[c]? = some (.cells x e (0, 0))) (hcb : w0.heap.size ≤ c) (hb : a.base ≤ 4294967296)
    (he : e ≠ 27 ∧ e ≠ 38 ∧ e ≠ 55 ∧ e ≠ 53)
    (hcf : ∀ (args : Array Value) (W : World), Sem.run Try.prog (callFunc ft args) W = .ok (.enter ft args) W) (r : Bool) (y : Array Value)
    (ht : ∀ m, a.asks = some m → m.ok → ∀ w1, w1.heap[c]? = some (.cells x e (0, 0)) → Calls Try.prog ft #[.agg m.cells.toArray, .pointer (some ⟨c, 0, none⟩)] w1 fun e' w2 => e' = .returned (.bool r) ∧ w2.heap[c]? = some (.cells y e (0, 0)) ∧ Mod (fun k => k = c) w1 w2) :
    Calls Try.prog 10 #[.pointer (some ⟨b, 0, none⟩), .func (.func ft) #[] #[.pointer (some ⟨c, 0, none⟩)]] w fun e' w' =>
      (a.asks = none ∧ e' = .returned (.bool (!a.q.isEmpty)) ∧ Own w0 w' b a.next ∧ w'.heap[c]? = some (.cells x e (0, 0))) ∨
      (∃ m, a.asks = some m ∧ e' = .returned (.bool r) ∧ Own w0 w' b (if r then a.next else a) ∧ w'.heap[c]? = some (.cells y e (0, 0))) := by
  have h' := h
  obtain ⟨⟨F, h1, h2⟩, hg, hbl⟩ := h
  have hgn : a.next.Good := by
    obtain ⟨ep, q, ph, got, base, lost⟩ := a
    obtain ⟨g1, g2, g3⟩ := hg
    have hb : base ≤ 4294967296 := hb
    cases ph <;> cases q <;> simp_all [LS.Good, LS.next] <;> omega
  have hn := h1.notF hc he
  refine (step_all b F a ft #[.pointer (some ⟨c, 0, none⟩)] w h1 hg (fun r' w2 => r' = r ∧ w2.heap[c]? = some (.cells y e (0, 0)) ∧ Own w0 w2 b a) hcf (fun m hm w1 hL1 hm1 => ?_)).mono fun e' w' hp => ?_
  · have hmok : m.ok := by
      obtain ⟨vo, vf, va, hI⟩ := h1
      refine hI.ok.1 m ?_
      obtain ⟨ep, q, ph, got, base, lost⟩ := a
      cases ph <;> cases q <;> cases got <;> simp_all [LS.asks, LS.toL]
    have hc1 := hm1.heap hc (by simp)
    refine (ht m hm hmok w1 hc1).mono fun e2 w2 ⟨h3, h4, h5⟩ => ⟨r, h3, (take_post hL1 hc1 he h5).1, ⟨rfl, h4, ?_⟩, (take_post hL1 hc1 he h5).2⟩
    exact (h'.new hm1).mod hc1 he hcb h5
  · rcases hp with ⟨p1, p2, p3⟩ | ⟨m, p1, ⟨p2, p3, p4, p5, p6⟩ | ⟨p2, w2, ⟨p4, p5, p6⟩, p7, p8⟩⟩
    · exact .inl ⟨p1, p2, h'.next h2 p3 hgn, p3.apart hc hn⟩
    · subst p4
      exact .inr ⟨m, p1, p2, p6, p5⟩
    · subst p4
      exact .inr ⟨m, p1, p2, p6.next h2 p8 hgn, p8.apart p5 hn⟩

/-- Blocks of another make than a link's stay as they are. -/
def Kept (w w' : World) : Prop := ∀ (k : Nat) (x : Array Value) (e : TypeId) (f : Nat × Nat), w.heap[k]? = some (Obj.cells x e f) → (e ≠ 27 ∧ e ≠ 38 ∧ e ≠ 55 ∧ e ≠ 53) → w'.heap[k]? = some (Obj.cells x e f)
theorem LinkTo.kept {w w' : World} {b : Nat} {F : Nat → Prop} {L L' : LinkS} (h : LinkTo w w' b F L') (hL : LinkAt w b F L) : Kept w w' := fun _ _ _ _ hk he => h.apart hk (hL.notF hk he)

/-- PUSH, over a link of the call's own. -/
theorem push_own (w0 : World) (b : Nat) (a : LS) (m : LMsg) (w : World) (h : Own w0 w b a) (hm : m.ok) (hlen : a.q.length ≤ 4294967296) (hl : a.lost ≤ 4294967296) :
    Calls Try.prog 9 #[.pointer (some ⟨b, 0, none⟩), .agg m.cells.toArray] w fun e w' =>
      (¬ (m.kind = 3 ∧ 6 ≤ evCount a.q) ∧ e = .returned (.bool true) ∧ Own w0 w' b { a with q := a.q ++ [m] } ∧ Kept w w') ∨
      ((m.kind = 3 ∧ 6 ≤ evCount a.q) ∧ e = .returned (.bool false) ∧ Own w0 w' b { a with lost := a.lost + 1 } ∧ Kept w w') := by
  have h' := h
  obtain ⟨⟨F, h1, h2⟩, hg, hbl⟩ := h
  refine (push_all b F a m w h1 hg hm hlen hl).mono fun e w' hp => ?_
  rcases hp with ⟨p1, p2, p3⟩ | ⟨p1, p2, p3⟩
  · exact .inl ⟨p1, p2, h'.next h2 p3 ⟨fun h => (by simp at h), hg.2.1, hg.2.2⟩, p3.kept h1⟩
  · exact .inr ⟨p1, p2, h'.next h2 p3 hg, p3.kept h1⟩

theorem LS.Good.next {a : LS} (hg : a.Good) (hb : a.base ≤ 4294967296) : a.next.Good := by
  obtain ⟨ep, q, ph, got, base, lost⟩ := a
  obtain ⟨g1, g2, g3⟩ := hg
  have hb : base ≤ 4294967296 := hb
  cases ph <;> cases q <;> simp_all [LS.Good, LS.next] <;> omega

/-- STEP, where nothing is asked. -/
theorem step_quiet (w0 : World) (b : Nat) (a : LS) (tk : Value) (w : World) (h : Own w0 w b a) (hn : a.asks = none) (hb : a.base ≤ 4294967296) :
    Calls Try.prog 10 #[.pointer (some ⟨b, 0, none⟩), tk] w fun e w' => e = .returned (.bool (!a.q.isEmpty)) ∧ Own w0 w' b a.next ∧ Kept w w' := by
  have h' := h
  obtain ⟨⟨F, h1, h2⟩, hg, hbl⟩ := h
  have hgn := hg.next hb
  have fin : ∀ (e : Ending) (w' : World), e = .returned (.bool (!a.q.isEmpty)) ∧ LinkTo w w' b F a.next.toL → e = .returned (.bool (!a.q.isEmpty)) ∧ Own w0 w' b a.next ∧ Kept w w' := fun e w' ⟨he, hl⟩ => ⟨he, h'.next h2 hl hgn, hl.kept h1⟩
  refine Calls.mono ?_ fin
  clear fin hgn h' h2 hbl
  obtain ⟨ep, q, ph, got, base, lost⟩ := a
  obtain ⟨g1, g2, g3⟩ := hg
  have g3 : base ≤ 4611686018427387000 := g3
  cases ph with
  | wait =>
    cases q with
    | nil =>
      refine (step_idle b F _ _ w h1 rfl rfl rfl).mono fun e w' ⟨he, hw⟩ => ⟨he, ?_⟩
      subst hw
      exact LinkTo.refl h1
    | cons m q => exact (step_send b F _ _ w h1 rfl rfl m q rfl).mono fun e w' ⟨he, hl⟩ => ⟨he, hl⟩
  | sent =>
    cases q with
    | nil => have := (g1 rfl).1; cases this
    | cons m q =>
      cases got with
      | false => cases hn
      | true => exact (step_dup b F _ _ w h1 rfl ⟨ep, base, m⟩ rfl rfl (by simp [LS.toL])).mono fun e w' ⟨he, hl⟩ => ⟨he, hl⟩
  | back =>
    cases q with
    | nil => have := (g1 rfl).1; cases this
    | cons m q =>
      obtain rfl : got = true := g2 rfl
      exact (step_ack b F _ ⟨ep, base⟩ [] _ w h1 rfl (by simp [LS.toL]; omega) m q rfl rfl rfl).mono fun e w' ⟨he, hl⟩ => ⟨he, hl⟩

/-- RESET. -/
theorem reset_own (w0 : World) (b : Nat) (a : LS) (w : World) (h : Own w0 w b a) (he : a.epoch ≤ 4294967296) :
    Calls Try.prog 21 #[.pointer (some ⟨b, 0, none⟩)] w fun e w' => e = .returned (.tuple #[]) ∧ Own w0 w' b ⟨a.epoch + 1, [], .wait, false, 0, a.lost⟩ ∧ Kept w w' := by
  have h' := h
  obtain ⟨⟨F, h1, h2⟩, hg, hbl⟩ := h
  exact (reset_at h1 (by simp [LS.toL]; omega)).mono fun e w' ⟨h3, h4⟩ => ⟨h3, h'.next (a' := ⟨a.epoch + 1, [], .wait, false, 0, a.lost⟩) h2 h4 ⟨fun _ => ⟨rfl, rfl⟩, fun h => (by cases h), by simp⟩, h4.kept h1⟩

def LS.lose (a : LS) : LS := { a with ph := .wait }

/-- LOSE. -/
theorem lose_own (w0 : World) (b : Nat) (a : LS) (w : World) (h : Own w0 w b a) :
    Calls Try.prog 19 #[.pointer (some ⟨b, 0, none⟩)] w fun e w' => e = .returned (.bool (decide (a.ph ≠ .wait))) ∧ Own w0 w' b a.lose ∧ Kept w w' := by
  have h' := h
  obtain ⟨⟨F, h1, h2⟩, hg, hbl⟩ := h
  have hgn : a.lose.Good := ⟨fun h => ⟨rfl, (hg.1 h).2⟩, fun h => (by cases h), hg.2.2⟩
  have fin : ∀ (e : Ending) (w' : World), e = .returned (.bool (decide (a.ph ≠ .wait))) ∧ LinkTo w w' b F a.lose.toL → e = .returned (.bool (decide (a.ph ≠ .wait))) ∧ Own w0 w' b a.lose ∧ Kept w w' := fun e w' ⟨he, hl⟩ => ⟨he, h'.next h2 hl hgn, hl.kept h1⟩
  refine Calls.mono ?_ fin
  clear fin hgn h' h2 hbl
  obtain ⟨ep, q, ph, got, base, lost⟩ := a
  obtain ⟨g1, g2, g3⟩ := hg
  cases ph with
  | wait =>
    refine (lose_none h1 rfl (by cases q <;> rfl)).mono fun e w' ⟨he, hw⟩ => ⟨he, ?_⟩
    subst hw
    exact LinkTo.refl h1
  | sent =>
    cases q with
    | nil => have := (g1 rfl).1; cases this
    | cons m q => exact (lose_flight h1 rfl ⟨ep, base, m⟩ [] rfl).mono fun e w' ⟨he, hl⟩ => ⟨he, hl⟩
  | back =>
    cases q with
    | nil => have := (g1 rfl).1; cases this
    | cons m q => exact (lose_ack h1 ⟨ep, base⟩ [] rfl).mono fun e w' ⟨he, hl⟩ => ⟨he, hl⟩

theorem Own.link {w0 w : World} {b : Nat} {a : LS} (h : Own w0 w b a) : ∃ F, LinkAt w b F a.toL := let ⟨F, h, _⟩ := h.at_; ⟨F, h⟩
theorem LS.flight_le (a : LS) : a.toL.flight.length ≤ 4294967296 := by
  obtain ⟨ep, q, ph, got, base, lost⟩ := a
  cases ph <;> cases q <;> simp [LS.toL]
theorem LS.acks_le (a : LS) : a.toL.acks.length ≤ 4294967296 := by
  obtain ⟨ep, q, ph, got, base, lost⟩ := a
  cases ph <;> simp [LS.toL]

/-- What the small methods tell. -/
theorem idle_own (w0 : World) (b : Nat) (a : LS) (w : World) (h : Own w0 w b a) : Calls Try.prog 12 #[.pointer (some ⟨b, 0, none⟩)] w fun e w' => e = .returned (.bool a.q.isEmpty) ∧ ∃ n, w' = w.drewN n := by
  obtain ⟨F, h1⟩ := h.link
  have := idle_at h1 a.flight_le a.acks_le
  have he : (a.toL.out.isEmpty && (a.toL.flight.isEmpty && a.toL.acks.isEmpty)) = a.q.isEmpty := by
    have hg := h.good
    obtain ⟨ep, q, ph, got, base, lost⟩ := a
    cases ph <;> cases q <;> simp_all [LS.toL, LS.Good]
  rwa [he] at this
theorem flight_own (w0 : World) (b : Nat) (a : LS) (w : World) (h : Own w0 w b a) : Calls Try.prog 15 #[.pointer (some ⟨b, 0, none⟩)] w fun e w' => e = .returned (.int .i64 (if a.ph = .wait then 0 else 1)) ∧ ∃ n, w' = w.drewN n := by
  obtain ⟨F, h1⟩ := h.link
  have := flight_at h1 a.flight_le a.acks_le
  have he : ((a.toL.flight.length + a.toL.acks.length : Nat) : Int) = (if a.ph = .wait then 0 else 1) := by
    have hg := h.good
    obtain ⟨ep, q, ph, got, base, lost⟩ := a
    cases ph <;> cases q <;> simp_all [LS.toL, LS.Good]
  rwa [he] at this
theorem len_own (w0 : World) (b : Nat) (a : LS) (w : World) (h : Own w0 w b a) : Calls Try.prog 17 #[.pointer (some ⟨b, 0, none⟩)] w fun e w' => e = .returned (.int .i64 a.q.length) ∧ w = w' := by
  obtain ⟨F, h1⟩ := h.link
  exact len_at h1
theorem epoch_own (w0 : World) (b : Nat) (a : LS) (w : World) (h : Own w0 w b a) : Calls Try.prog 22 #[.pointer (some ⟨b, 0, none⟩)] w fun e w' => e = .returned (.int .i64 a.epoch) ∧ w = w' := by
  obtain ⟨F, h1⟩ := h.link
  exact epoch_at h1
theorem lost_own (w0 : World) (b : Nat) (a : LS) (w : World) (h : Own w0 w b a) : Calls Try.prog 13 #[.pointer (some ⟨b, 0, none⟩)] w fun e w' => e = .returned (.int .i64 a.lost) ∧ w = w' := by
  obtain ⟨F, h1⟩ := h.link
  exact lost_at h1
theorem Own.drewN {w0 w : World} {b : Nat} {a : LS} (h : Own w0 w b a) (n : Nat) : Own w0 (w.drewN n) b a := h.new ((Mod.refl _ w).drewN n)

end Go.Proofs.Ytdlmadjlhiblmaa
