/-
  Match of an event as the laws make it: the program's and the document's.
-/
import Derived.Test.YtpfnemkfbelpcaaEv7
import Derived.Test.YtpfnemkfbelpcaaMask
namespace Go.Proofs.Ytpfnemkfbelpcaa
set_option maxRecDepth 20000
open Go.RowKit

theorem right_each {l : List Att} (h : evRight l = true) {a : Att} (ha : a ∈ l) : isName a.name = true ∧ a.v.right = true := by
  unfold evRight at h
  simp only [Bool.and_eq_true, List.all_eq_true, decide_eq_true_eq] at h
  obtain ⟨k, hk⟩ := List.mem_iff_getElem?.1 ha
  have := h.1 k (List.mem_range.2 (List.getElem?_eq_some_iff.1 hk).1)
  unfold okAt at this
  rw [hk] at this
  simp only [Bool.and_eq_true] at this
  exact ⟨this.1.1.1, this.1.1.2⟩
theorem ev7L_text {l : List Att} : ∀ a ∈ ev7L l, a.v.text.size ≤ 9223372036854775807 := fun a ha => by
  have := (right_each (ev7L_mem ha).2 (a := a) (by simp)).2
  unfold V.right at this
  simp only [Bool.and_eq_true, decide_eq_true_eq] at this
  omega

/-- What all attributes have, those of a new event have, as they are kept. -/
theorem newL_mem {p : Att → Prop} (l : List Att) (h : ∀ a ∈ l, p a.canon) : ∀ a ∈ newL l, p a := by
  unfold newL
  suffices ∀ (l acc : List Att), (∀ a ∈ l, p a.canon) → (∀ a ∈ acc, p a) → ∀ a ∈ l.foldl (fun acc a => putA acc a.canon) acc, p a from this l [] h (by simp)
  intro l
  induction l with
  | nil => intro acc _ h; exact h
  | cons a l ih =>
    intro acc h1 h2
    refine ih _ (fun b hb => h1 b (by simp [hb])) fun b hb => ?_
    have ha := h1 a (by simp)
    have hb : b ∈ putA acc a.canon := hb
    unfold putA at hb
    split at hb
    · rcases List.mem_append.1 hb with hb | hb
      · exact h2 b (List.mem_of_mem_take hb)
      · rcases List.mem_cons.1 hb with rfl | hb
        · exact ha
        · exact h2 b (List.mem_of_mem_drop hb)
    · rcases List.mem_append.1 hb with hb | hb
      · exact h2 b (List.mem_of_mem_take hb)
      · rcases List.mem_cons.1 hb with rfl | hb
        · exact ha
        · exact h2 b (List.mem_of_mem_drop hb)
theorem ev7S_size (s : ByteArray) : (ev7S s).size ≤ s.size := by
  unfold ev7S
  split
  · exact Nat.le_refl _
  · exact Nat.zero_le _

theorem there_is {l : List Att} {s : ByteArray} (h : there l s = true) : ∃ x, l[pos l s]? = some x ∧ (x.name.toList == s.toList) = true := by
  unfold there at h
  split at h
  · rename_i a ha
    refine ⟨a, ha, ?_⟩
    rw [ByteArray.toList_eq, ByteArray.toList_eq]
    exact h
  · cases h
/-- An attribute of that name stands in its place. -/
theorem at_pos {l : List Att} (hr : rises l) {s : ByteArray} {k : Nat} {x : Att} (hx : l[k]? = some x) (hn : (x.name.toList == s.toList) = true) : pos l s = k := by
  rw [beq_iff_eq, ByteArray.toList_eq, ByteArray.toList_eq] at hn
  rcases Nat.lt_trichotomy k (pos l s) with h | h | h
  · have := pos_less h hx
    rw [hn, less_irrefl] at this
    cases this
  · exact h.symm
  · obtain ⟨y, hy⟩ : ∃ y, l[pos l s]? = some y := ⟨_, List.getElem?_eq_getElem (by have := (List.getElem?_eq_some_iff.1 hx).1; omega)⟩
    have h1 := hr _ _ y x h hy hx
    rw [hn] at h1
    have h2 := pos_not hr (Nat.le_refl _) hy
    rw [h1] at h2
    cases h2
theorem rmatch_eq {l : List Att} (hr : rises l) (c : Cnd) : rMatchC c l = c.matchB l := by
  unfold rMatchC Cnd.matchB getV
  cases ht : there l c.name with
  | true =>
    obtain ⟨x, hx, hn⟩ := there_is ht
    rw [if_pos rfl, hx]
    show _ = (true && c.holds x.v)
    rw [Bool.true_and, Bool.eq_iff_iff, List.any_eq_true]
    constructor
    · rintro ⟨y, hy, h⟩
      rw [Bool.and_eq_true] at h
      obtain ⟨k, hk⟩ := List.mem_iff_getElem?.1 hy
      have hp := at_pos hr hk h.1
      rw [hp, hk] at hx
      cases hx
      exact h.2
    · intro h
      exact ⟨x, List.mem_of_getElem? hx, by rw [hn, h]; rfl⟩
  | false =>
    rw [if_neg (by decide)]
    show _ = (false && _)
    rw [Bool.false_and, List.any_eq_false]
    intro y hy h
    rw [Bool.and_eq_true] at h
    obtain ⟨k, hk⟩ := List.mem_iff_getElem?.1 hy
    have hp := at_pos hr hk h.1
    have : there l c.name = true := by
      unfold there
      rw [hp, hk]
      have := h.1
      rw [ByteArray.toList_eq, ByteArray.toList_eq] at this
      exact this
    rw [ht] at this
    cases this

/-- filter.Match, and gazetteref07.Match, of a rule's filter and the law's event. -/
theorem match_rule (w : World) (r : Ru) (hr : r.ok w) (es : ByteArray) (hes : es.size ≤ 60) (av : Value) (l : List Att) (hv : RdSl w 6 av (ev7L l).length (atts (ev7L l))) :
    Calls Try.prog 53 #[.agg #[.string r.sc, r.cv], .agg #[.string (ev7S es), av]] w fun e w' => e = .returned (.bool (filMatch r.sc r.cs (ev7S es) (ev7L l))) ∧ Mod (fun _ => False) w w' :=
  filter_match w r.sc r.cv r.cs hr.rd hr.len hr.sc (fun c hc => (hr.cname c hc).2) (ev7S es) av (ev7L l) hv (by have := ev7L_le l; omega) (ev7L_rises l) (by have := ev7S_size es; omega) ev7L_text
theorem rmatch_rule (w : World) (r : Ru) (hr : r.ok w) (hrr : filRight r.sc r.cs = true) (es : ByteArray) (hes : es.size ≤ 60) (av : Value) (l : List Att) (hv : RdSl w 6 av (ev7L l).length (atts (ev7L l))) :
    Calls Try.prog 20 #[.agg #[.string r.sc, r.cv], .agg #[.string (ev7S es), av]] w fun e w' => e = .returned (.bool (filMatch r.sc r.cs (ev7S es) (ev7L l))) ∧ Mod (fun _ => False) w w' := by
  have h := rmatch_at w r.sc r.cv r.cs hr.rd (by have := (fil_right_ops hrr).1; omega) hr.sc (fun c hc => (hr.cname c hc).2) (ev7S es) av (ev7L l) hv (by have := ev7L_le l; omega) (by have := ev7S_size es; omega) ev7L_text
  have e : (underB (ev7S es) r.sc && r.cs.all fun c => rMatchC c (ev7L l)) = filMatch r.sc r.cs (ev7S es) (ev7L l) := by
    unfold filMatch
    rw [Bool.and_comm]
    congr 1
    have : (fun c => rMatchC c (ev7L l)) = fun c : Cnd => c.matchB (ev7L l) := funext fun c => rmatch_eq (ev7L_rises l) c
    rw [this]
  rw [e] at h
  exact h
end Go.Proofs.Ytpfnemkfbelpcaa
