/-
  Events and their bytes: the plain law.
-/
import Derived.Test.YtfpghpicknnfgaaEvsame
import Derived.Test.YtfpghpicknnfgaaNewW
import Derived.Test.YtfpghpicknnfgaaFwd
import Derived.Test.YtfpghpicknnfgaaWrev
import Derived.Test.YtfpghpicknnfgaaRdev
namespace Go.Proofs.Ytfpghpicknnfgaa
open Go.RowKit

theorem readT_app {bs t : List UInt8} {s : ByteArray} (u : List UInt8) (h : readT bs = some (s, t)) : readT (bs ++ u) = some (s, t ++ u) := by
  cases bs with
  | nil => cases h
  | cons x b =>
    have h : (if x.toNat ≤ b.length then some (str (b.take x.toNat), b.drop x.toNat) else none) = some (s, t) := h
    show (if x.toNat ≤ (b ++ u).length then some (str ((b ++ u).take x.toNat), (b ++ u).drop x.toNat) else none) = _
    split at h
    · rename_i hl
      cases h
      rw [if_pos (by rw [List.length_append]; omega), List.take_append_of_le_length hl, List.drop_append_of_le_length hl]
    · cases h
theorem readV_app {bs t : List UInt8} {v : V} (u : List UInt8) (h : readV bs = some (v, t)) : readV (bs ++ u) = some (v, t ++ u) := by
  cases bs with
  | nil => cases h
  | cons k b =>
    rw [List.cons_append, readV_cons]
    rw [readV_cons] at h
    by_cases h0 : k.toNat = 0
    · rw [if_pos h0] at h ⊢
      split at h
      · rename_i hl
        cases h
        rw [if_pos (by rw [List.length_append]; omega), List.take_append_of_le_length hl, List.drop_append_of_le_length hl]
      · cases h
    · rw [if_neg h0] at h ⊢
      by_cases h1 : k.toNat = 1
      · rw [if_pos h1] at h ⊢
        split at h
        · rename_i hl
          cases h
          rw [List.take_append_of_le_length hl.1, if_pos ⟨by rw [List.length_append]; omega, hl.2⟩, List.drop_append_of_le_length hl.1]
        · cases h
      · rw [if_neg h1] at h ⊢
        by_cases h2 : k.toNat = 2
        · rw [if_pos h2] at h ⊢
          cases b with
          | nil => cases h
          | cons n b =>
            rw [List.cons_append]
            simp only at h ⊢
            split at h
            · rename_i hl
              cases h
              rw [if_pos ⟨by rw [List.length_append]; omega, hl.2⟩, List.take_append_of_le_length hl.1, List.drop_append_of_le_length hl.1]
            · cases h
        · rw [if_neg h2] at h ⊢
          by_cases h3 : k.toNat = 3
          · rw [if_pos h3] at h ⊢
            cases b with
            | nil => cases h
            | cons n b =>
              rw [List.cons_append]
              simp only at h ⊢
              split at h
              · rename_i hl
                cases h
                rw [if_pos hl]
              · cases h
          · rw [if_neg h3] at h; cases h
theorem readAtts_app : ∀ (n : Nat) {bs t : List UInt8} {l : List Att} (u : List UInt8), readAtts n bs = some (l, t) → readAtts n (bs ++ u) = some (l, t ++ u)
  | 0, bs, t, l, u, h => by cases h; rfl
  | n + 1, bs, t, l, u, h => by
    rw [readAtts_succ] at h ⊢
    cases h1 : readT bs with
    | none => rw [h1] at h; cases h
    | some p =>
      obtain ⟨s, t1⟩ := p
      rw [h1] at h
      rw [readT_app u h1]
      simp only [Option.bind_some] at h ⊢
      cases h2 : readV t1 with
      | none => rw [h2] at h; cases h
      | some q =>
        obtain ⟨v, t2⟩ := q
        rw [h2] at h
        rw [readV_app u h2]
        simp only [Option.bind_some] at h ⊢
        cases h3 : readAtts n t2 with
        | none => rw [h3] at h; cases h
        | some z =>
          obtain ⟨m, t3⟩ := z
          rw [h3] at h
          rw [readAtts_app n u h3]
          cases h
          rfl
theorem readE_app {bs t : List UInt8} {p : ByteArray × List Att} (u : List UInt8) (h : readE bs = some (p, t)) : readE (bs ++ u) = some (p, t ++ u) := by
  unfold readE at h ⊢
  cases h1 : readT bs with
  | none => rw [h1] at h; cases h
  | some q =>
    obtain ⟨s, t1⟩ := q
    rw [h1] at h
    rw [readT_app u h1]
    simp only [Option.bind_some] at h ⊢
    cases t1 with
    | nil => cases h
    | cons n t1 =>
      rw [List.cons_append]
      simp only at h ⊢
      cases h3 : readAtts n.toNat t1 with
      | none => rw [h3] at h; cases h
      | some z =>
        obtain ⟨m, t3⟩ := z
        rw [h3] at h
        rw [readAtts_app n.toNat u h3]
        simp only [Option.bind_some] at h ⊢
        split at h
        · rename_i hr
          rw [if_pos hr]
          cases h
          rfl
        · cases h

/-- An attribute as it is kept, whose bytes tell it. -/
structure Att.tells (a : Att) : Prop where
  name : a.name.size ≤ 255
  v : a.v.fits
  kept : a.v.canon = a.v
theorem readAtts_fwd : ∀ (l : List Att) (t : List UInt8), (∀ a ∈ l, a.tells) → readAtts l.length (l.flatMap attBytes ++ t) = some (l, t)
  | [], t, _ => rfl
  | a :: l, t, h => by
    have ha := h a (by simp)
    have ih := readAtts_fwd l t (fun d hd => h d (by simp [hd]))
    rw [List.length_cons, readAtts_succ, List.flatMap_cons]
    have e : attBytes a ++ l.flatMap attBytes ++ t = (byteOf a.name.size :: txt a.name) ++ (valBytes a.v ++ (l.flatMap attBytes ++ t)) := by simp [attBytes]
    rw [e, readT_fwd a.name _ ha.name]
    simp only [Option.bind_some]
    rw [readV_fwd a.v _ ha.v]
    simp only [Option.bind_some]
    rw [ih, ha.kept]
    rfl
theorem readE_fwd (sc : ByteArray) (l : List Att) (t : List UInt8) (hs : sc.size ≤ 255) (hr : evRight l = true) (h : ∀ a ∈ l, a.tells) : readE (evBytes sc l ++ t) = some ((sc, l), t) := by
  have hl : l.length ≤ 255 := by
    unfold evRight at hr
    simp only [Bool.and_eq_true, decide_eq_true_eq] at hr
    omega
  have e : evBytes sc l ++ t = (byteOf sc.size :: txt sc) ++ (byteOf l.length :: (l.flatMap attBytes ++ t)) := by simp [evBytes]
  unfold readE
  rw [e, readT_fwd sc _ hs]
  show ((readAtts (byteOf (l.length : Int)).toNat (l.flatMap attBytes ++ t)).bind fun z => if evRight z.1 then some ((sc, z.1), z.2) else none) = _
  rw [byteOf_nat l.length hl, readAtts_fwd l t h]
  simp only [Option.bind_some, hr, if_true]

/-- What is cut off makes them none; so does what stands behind. -/
theorem readE_cut (sc : ByteArray) (l : List Att) (hs : sc.size ≤ 255) (hr : evRight l = true) (h : ∀ a ∈ l, a.tells) {n : Nat} (hn : n < (evBytes sc l).length) : ∀ p, readE ((evBytes sc l).take n) ≠ some (p, []) := fun p hp => by
  have h1 := readE_app ((evBytes sc l).drop n) hp
  have h2 := readE_fwd sc l [] hs hr h
  rw [List.take_append_drop, List.nil_append] at h1
  rw [List.append_nil, h1] at h2
  simp only [Option.some.injEq, Prod.mk.injEq] at h2
  have := congrArg List.length h2.2
  rw [List.length_drop, List.length_nil] at this
  omega
theorem readE_more (sc : ByteArray) (l : List Att) (hs : sc.size ≤ 255) (hr : evRight l = true) (h : ∀ a ∈ l, a.tells) (x : UInt8) : ∀ p, readE (evBytes sc l ++ [x]) ≠ some (p, []) := fun p hp => by
  have h2 := readE_fwd sc l [x] hs hr h
  rw [hp] at h2
  simp at h2

theorem attsSame_self (l : List Att) : attsSame l l = true := by
  induction l with
  | nil => rfl
  | cons a l ih =>
    simp only [attsSame, Bool.and_eq_true]
    exact ⟨by simp [Att.same, V.same_self], ih⟩

theorem canonB_canon' (x : Nat) : canonB (canonB x) = canonB x := by
  cases h : fEq (canonB x) (canonB x) with
  | true => exact canon_self h
  | false =>
    have hn : canonB x = nanB := by
      unfold canonB at h ⊢
      split at h
      · rename_i h1
        split at h
        · rw [fEq_0] at h; cases h
        · rw [h1] at h; cases h
      · rename_i h1
        rw [if_neg h1]
    rw [hn]
    unfold canonB
    rw [if_neg (by decide +kernel)]
theorem V.canon_kept (v : V) : v.canon.canon = v.canon := by
  unfold V.canon
  split
  · rfl
  · split
    · simp [canonB_canon']
    · split
      · rfl
      · split
        · rfl
        · rfl

theorem canon_num' {v : V} (h : v.num < 2 ^ 64) : v.canon.num < 2 ^ 64 := by
  unfold V.canon
  split
  · show (0 : Nat) < 2 ^ 64; decide
  · split
    · exact canonB_lt h
    · split
      · show (0 : Nat) < 2 ^ 64; decide
      · split
        · show (0 : Nat) < 2 ^ 64; decide
        · show (0 : Nat) < 2 ^ 64; decide

/-- What all attributes have, those of a new event have, as they are kept. -/
theorem newL_mem {p : Att → Prop} (l : List Att) (h : ∀ a ∈ l, p a.canon) : ∀ a ∈ newL l, p a := by
  unfold newL
  suffices ∀ (l acc : List Att), (∀ a ∈ l, p a.canon) → (∀ a ∈ acc, p a) → ∀ a ∈ l.foldl (fun acc a => putA acc a.canon) acc, p a from this l [] h (by simp)
  intro l
  induction l with
  | nil => intro acc _ h; exact h
  | cons a l ih =>
    intro acc h1 h2
    refine ih _ (fun b hb => h1 b (by simp [hb])) fun b hb => ?_
    have ha := h1 a (by simp)
    have hb : b ∈ putA acc a.canon := hb
    unfold putA at hb
    split at hb
    · rcases List.mem_append.1 hb with hb | hb
      · exact h2 b (List.mem_of_mem_take hb)
      · rcases List.mem_cons.1 hb with rfl | hb
        · exact ha
        · exact h2 b (List.mem_of_mem_drop hb)
    · rcases List.mem_append.1 hb with hb | hb
      · exact h2 b (List.mem_of_mem_take hb)
      · rcases List.mem_cons.1 hb with rfl | hb
        · exact ha
        · exact h2 b (List.mem_of_mem_drop hb)

theorem right_each {l : List Att} (h : evRight l = true) {a : Att} (ha : a ∈ l) : isName a.name = true ∧ a.v.right = true := by
  unfold evRight at h
  simp only [Bool.and_eq_true, List.all_eq_true, decide_eq_true_eq] at h
  obtain ⟨k, hk⟩ := List.mem_iff_getElem?.1 ha
  have := h.1 k (List.mem_range.2 (List.getElem?_eq_some_iff.1 hk).1)
  unfold okAt at this
  rw [hk] at this
  simp only [Bool.and_eq_true] at this
  exact ⟨this.1.1.1, this.1.1.2⟩
theorem name_size {s : ByteArray} (h : isName s = true) : s.size ≤ 12 := by
  unfold isName at h
  simp only [Bool.and_eq_true, decide_eq_true_eq] at h
  exact h.2.2

theorem new_tells (l : List Att) (hf : ∀ a ∈ l, (-9223372036854775808 ≤ a.v.int ∧ a.v.int ≤ 9223372036854775807) ∧ a.v.num < 2 ^ 64) (hr : evRight (newL l) = true) : ∀ a ∈ newL l, a.tells := fun a ha => by
  have h1 := right_each hr ha
  have h2 := newL_mem (p := fun a => (-9223372036854775808 ≤ a.v.int ∧ a.v.int ≤ 9223372036854775807) ∧ a.v.num < 2 ^ 64 ∧ a.v.canon = a.v) l (fun a ha => ⟨by
    have := (hf a ha).1
    show -9223372036854775808 ≤ a.v.canon.int ∧ a.v.canon.int ≤ 9223372036854775807
    unfold V.canon
    split
    · exact this
    · split
      · simp [V.zero]
      · split
        · simp [V.zero]
        · split <;> simp [V.zero], canon_num' (hf a ha).2, V.canon_kept a.v⟩) a ha
  exact ⟨by have := name_size h1.1; omega, ⟨h1.2, h2.1, h2.2.1⟩, h2.2.2⟩

theorem Att.tells_fit {a : Att} (h : a.tells) : a.fit := ⟨h.name, by
  have := h.v.right
  unfold V.right at this
  simp only [Bool.and_eq_true, decide_eq_true_eq] at this
  omega, h.v.num⟩

theorem evBytes_length (sc : ByteArray) (l : List Att) (hs : sc.size ≤ 255) (hl : l.length ≤ 30) (h : ∀ c ∈ l, c.fit) : (evBytes sc l).length ≤ 20000 := by
  have hb : ∀ m : List Att, (∀ c ∈ m, c.fit) → (m.flatMap attBytes).length ≤ 600 * m.length := by
    intro m
    induction m with
    | nil => intro _; simp
    | cons y m ih =>
      intro hy
      rw [List.flatMap_cons, List.length_append, List.length_cons]
      have h1 := hy y (by simp)
      have h2 := valBytes_length y.v h1.2.1
      have h3 : (attBytes y).length ≤ 600 := by unfold attBytes; simp only [List.length_append, List.length_cons, txt_length]; have := h1.1; omega
      have := ih (fun z hz => hy z (by simp [hz]))
      omega
  have h1 := hb l h
  have := Nat.mul_le_mul_left 600 hl
  unfold evBytes
  simp only [List.length_append, List.length_cons, List.length_nil, txt_length]
  omega

/-- Alike: the same bytes. -/
theorem V.same_bytes {a b : V} (h : V.same a b = true) (ha : a.right = true) : valBytes a = valBytes b := by
  unfold V.right at ha
  simp only [Bool.and_eq_true, decide_eq_true_eq] at ha
  obtain ⟨k1, i1, n1, t1, y1⟩ := a
  obtain ⟨k2, i2, n2, t2, y2⟩ := b
  unfold V.same at h
  simp only [Bool.and_eq_true, beq_iff_eq] at h
  obtain ⟨rfl, h⟩ := h
  unfold valBytes
  simp only at h ha ⊢
  rcases (by omega : k1 = 0 ∨ k1 = 1 ∨ k1 = 2 ∨ k1 = 3) with rfl | rfl | rfl | rfl
  · simp at h ⊢; rw [h]
  · simp at h ⊢; rw [h]
  · simp at h ⊢
    have : t1 = t2 := WideShapes.bytes_inj (by rw [← ByteArray.toList_eq, ← ByteArray.toList_eq]; exact h)
    rw [this]
    exact ⟨rfl, rfl⟩
  · simp at h ⊢; rw [h]
theorem attsSame_bytes : ∀ {l m : List Att}, attsSame l m = true → (∀ a ∈ l, a.v.right = true) → l.flatMap attBytes = m.flatMap attBytes
  | [], [], _, _ => rfl
  | [], _ :: _, h, _ => by simp [attsSame] at h
  | _ :: _, [], h, _ => by simp [attsSame] at h
  | a :: l, b :: m, h, hr => by
    simp only [attsSame, Bool.and_eq_true, Att.same, beq_iff_eq] at h
    have hn : a.name = b.name := WideShapes.bytes_inj (by rw [← ByteArray.toList_eq, ← ByteArray.toList_eq]; exact h.1.1)
    rw [List.flatMap_cons, List.flatMap_cons, attsSame_bytes h.2 (fun c hc => hr c (by simp [hc]))]
    unfold attBytes
    rw [hn, V.same_bytes h.1.2 (hr a (by simp))]
/-- Unlike events have unlike bytes. -/
theorem ev_apart (sc : ByteArray) (l m : List Att) (hs : sc.size ≤ 255) (hl : evRight l = true) (hm : evRight m = true) (h1 : ∀ a ∈ l, a.tells) (h2 : ∀ a ∈ m, a.tells) : (evBytes sc l == evBytes sc m) = attsSame l m := by
  rw [Bool.eq_iff_iff, beq_iff_eq]
  constructor
  · intro h
    have e1 := readE_fwd sc l [] hs hl h1
    have e2 := readE_fwd sc m [] hs hm h2
    rw [h, e2] at e1
    cases e1
    exact attsSame_self _
  · intro h
    unfold evBytes
    rw [attsSame_length h, attsSame_bytes h fun a ha => (h1 a ha).v.right]
end Go.Proofs.Ytfpghpicknnfgaa
