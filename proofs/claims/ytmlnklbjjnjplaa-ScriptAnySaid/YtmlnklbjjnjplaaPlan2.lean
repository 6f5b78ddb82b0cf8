/-
  A region that draws its order, walked once in an order of our own: first what only reads, then what keeps what those read, then the others.
-/
import Derived.Test.YtmlnklbjjnjplaaPlan
namespace Go.Proofs.Ytmlnklbjjnjplaa
open Go.RowKit

section
variable {P : Program} {ops : Array Oper} {Q : Exit → Act → World → Prop} {md : Region.Mode} {S : World → Prop} {T : Nat → Bool}

/-- Those that read, in this order; T: what keeps what they read. -/
def headOk2 (md : Region.Mode) (ops : Array Oper) (T : Nat → Bool) : List Nat → Array Bool → Bool
  | [], _ => true
  | i :: is, listed => Region.free md ops listed i && (Region.ready md ops listed).contains i &&
      (((ops[i]?).map (fun o => pureOp o.op)).getD false || (List.range ops.size).all fun j => j == i || listed.getD j true || reachB md ops ops.size j i || T j) &&
      headOk2 md ops T is (listed.setIfInBounds i true)
def listBy : List Nat → Array Bool → Array Bool
  | [], listed => listed
  | i :: is, listed => listBy is (listed.setIfInBounds i true)
def tailOk2 (md : Region.Mode) (ops : Array Oper) : List Nat → Array Bool → Bool
  | [], listed => (Region.ready md ops listed).isEmpty
  | i :: is, listed => Region.ready md ops listed == [i] && tailOk2 md ops is (listed.setIfInBounds i true)
def opsAt (ops : Array Oper) (is : List Nat) : List Oper := is.filterMap fun i => ops[i]?
def planOk2 (md : Region.Mode) (ops : Array Oper) (hs ks ts : List Nat) : Bool :=
  Region.noSelect ops && hs.all (fun i => decide (i < ops.size)) && ks.all (fun i => decide (i < ops.size)) && ts.all (fun i => decide (i < ops.size)) && decide (hs.length + ks.length + ts.length = ops.size) &&
    ts.all (fun i => !ks.contains i) && headOk2 md ops (fun j => ks.contains j) hs (Array.replicate ops.size false) && tailOk2 md ops (ks ++ ts) (listBy hs (Array.replicate ops.size false))

/-- What keeps S, one behind the other. -/
def walkT (P : Program) (Q : Exit → Act → World → Prop) (S : World → Prop) (K : Act → World → Prop) : List Oper → Act → World → Prop
  | [], a, w => K a w
  | o :: os, a, w => o.guard = none ∧ o.wp P a w (fun a' w' => (S w → S w') ∧ walkT P Q S K os a' w') Q

theorem walkT_nil {K : Act → World → Prop} {a : Act} {w : World} (h : K a w) : walkT P Q S K [] a w := h
theorem walkT_cons {K : Act → World → Prop} {o : Oper} {os : List Oper} {a : Act} {w : World} (hg : o.guard = none)
    (h : ∀ K' : Act → World → Prop, (∀ a' w', (S w → S w') → walkT P Q S K os a' w' → K' a' w') → o.wp P a w K' Q) : walkT P Q S K (o :: os) a w :=
  ⟨hg, h _ fun _ _ h1 h2 => ⟨h1, h2⟩⟩

theorem heads_go2 (hsel : Region.noSelect ops = true) (hQ : ∀ (c : List PanicEntry) (a : Act) (d : Option Tmp) (v : Value) (w : World), Q (.panic c) (a.put d v) w → Q (.panic c) a w) {fuel : Nat} {w : World} (hS : S w) {K : Act → Prop} :
    ∀ (hs : List Nat) (listed : Array Bool) (a : Act), (∀ i ∈ hs, i < ops.size) → headOk2 md ops T hs listed = true → ClosedL md ops listed → stillS P ops S K (opsAt ops hs) a →
      (∀ a', K a' → ClosedL md ops (listBy hs listed) → wpAnyG P md ops Q S T fuel (listBy hs listed) a' w) → wpAnyG P md ops Q S T (hs.length + fuel) listed a w
  | [], listed, a, _, _, hc, hst, hK => by
    simp only [List.length_nil, Nat.zero_add]
    exact hK a hst hc
  | i :: hs, listed, a, hix, hok, hc, hst, hK => by
    simp only [headOk2, Bool.and_eq_true] at hok
    obtain ⟨⟨⟨hf, hr⟩, hp⟩, hok⟩ := hok
    obtain ⟨o, ho⟩ : ∃ o, ops[i]? = some o := ⟨_, Array.getElem?_eq_getElem (hix i (by simp))⟩
    have hoa : opsAt ops (i :: hs) = o :: opsAt ops hs := by unfold opsAt; rw [List.filterMap_cons, ho]
    rw [hoa] at hst
    obtain ⟨v, hy, hst⟩ := hst
    have hri : i ∈ Region.ready md ops listed := by simpa using hr
    have := wpAnyG_first (S := S) (T := T) (S' := fun w => pureOp o.op = false → S w) ho (Region.noSelect_spec hsel) (fun c a w => hQ c a o.dst v w) (hs.length + fuel) listed a w hc (Region.free_spec ho hf)
      (fun j hj hji hun hre w w' hT h hpf => by
        simp only [ho, Option.map_some, Option.getD_some, hpf, Bool.false_or, List.all_eq_true, List.mem_range, Bool.or_eq_true, beq_iff_eq] at hp
        rcases hp j hj with ((h1 | h1) | h1) | h1
        · exact absurd h1 hji
        · rw [hun] at h1; cases h1
        · rw [hre] at h1; cases h1
        · exact hT h1 (h hpf))
      hri hy (fun _ => hS)
      (heads_go2 hsel hQ hS hs (listed.setIfInBounds i true) (a.put o.dst v) (fun j hj => hix j (by simp [hj])) hok (hc.set hri) hst (fun a' ha' hc' => hK a' ha' hc'))
    rw [List.length_cons, Nat.add_right_comm]
    exact this

theorem tails_go2 : ∀ (ts : List Nat) (listed : Array Bool) (a : Act) (w : World), (∀ i ∈ ts, i < ops.size ∧ T i = false) → tailOk2 md ops ts listed = true → wpList P ops Q (opsAt ops ts) a w →
      wpAnyG P md ops Q S T ts.length listed a w
  | [], listed, a, w, _, hok, h => by
    simp only [tailOk2, List.isEmpty_iff] at hok
    exact ⟨hok, h⟩
  | i :: ts, listed, a, w, hix, hok, h => by
    simp only [tailOk2, Bool.and_eq_true, beq_iff_eq] at hok
    obtain ⟨hr, hok⟩ := hok
    obtain ⟨o, ho⟩ : ∃ o, ops[i]? = some o := ⟨_, Array.getElem?_eq_getElem (hix i (by simp)).1⟩
    have hoa : opsAt ops (i :: ts) = o :: opsAt ops ts := by unfold opsAt; rw [List.filterMap_cons, ho]
    rw [hoa] at h
    have hTi := (hix i (by simp)).2
    have ih : ∀ a' w', wpList P ops Q (opsAt ops ts) a' w' → wpAnyG P md ops Q S T ts.length (listed.setIfInBounds i true) a' w' := fun a' w' h' =>
      tails_go2 ts (listed.setIfInBounds i true) a' w' (fun j hj => hix j (by simp [hj])) hok h'
    refine ⟨fun h0 => (by rw [hr] at h0; cases h0), fun j hj => ?_⟩
    rw [hr] at hj
    obtain rfl : j = i := by simpa using hj
    unfold wpOp
    simp only [ho]
    simp only [wpList] at h
    split
    · rename_i hw
      simp only [hw, if_true] at h
      exact h.imp (fun h => Oper.wp_mono (fun a' w' h' => ⟨fun hT => absurd (hTi.symm.trans hT) (by decide), ih _ _ h'⟩) h) id
    · rename_i hw
      simp only [hw] at h
      exact ⟨fun _ hs => hs, ih _ _ h⟩

theorem keeps_go2 {K : Act → World → Prop} {fuel : Nat} {ts : List Nat} : ∀ (ks : List Nat) (listed : Array Bool) (a : Act) (w : World), (∀ i ∈ ks, i < ops.size) → tailOk2 md ops (ks ++ ts) listed = true → walkT P Q S K (opsAt ops ks) a w →
      (∀ a' w', K a' w' → tailOk2 md ops ts (listBy ks listed) = true → wpAnyG P md ops Q S T fuel (listBy ks listed) a' w') → wpAnyG P md ops Q S T (ks.length + fuel) listed a w
  | [], listed, a, w, _, hok, h, hK => by
    simp only [List.length_nil, Nat.zero_add]
    exact hK a w h hok
  | i :: ks, listed, a, w, hix, hok, h, hK => by
    simp only [List.cons_append, tailOk2, Bool.and_eq_true, beq_iff_eq] at hok
    obtain ⟨hr, hok⟩ := hok
    obtain ⟨o, ho⟩ : ∃ o, ops[i]? = some o := ⟨_, Array.getElem?_eq_getElem (hix i (by simp))⟩
    have hoa : opsAt ops (i :: ks) = o :: opsAt ops ks := by unfold opsAt; rw [List.filterMap_cons, ho]
    rw [hoa] at h
    obtain ⟨hg, h⟩ := h
    rw [List.length_cons, Nat.add_right_comm]
    refine ⟨fun h0 => (by rw [hr] at h0; cases h0), fun j hj => ?_⟩
    rw [hr] at hj
    obtain rfl : j = i := by simpa using hj
    unfold wpOp
    simp only [ho]
    rw [if_pos (by simp [Region.wanted, hg])]
    exact .inl (Oper.wp_mono (fun a' w' h' => ⟨fun _ => h'.1, keeps_go2 ks (listed.setIfInBounds j true) a' w' (fun k hk => hix k (by simp [hk])) hok h'.2 hK⟩) h)

/-- THE LAW. -/
theorem wp_region_plan2 {id : Nat} {a : Act} {w : World} {l : List Oper} (hs ks ts : List Nat) (S : World → Prop) (hm : P.follows .mixedOrders = true) (hB : planOk2 .any l.toArray hs ks ts = true)
    (hQ : ∀ (c : List PanicEntry) (a : Act) (d : Option Tmp) (v : Value) (w : World), Q (.panic c) (a.put d v) w → Q (.panic c) a w) (hS : S w.drew)
    (h : stillS P l.toArray S (fun a' => walkT P Q S (fun a'' w'' => wpList P l.toArray Q (opsAt l.toArray ts) a'' w'') (opsAt l.toArray ks) a' w.drew) (opsAt l.toArray hs) a) : (Code.region id l.toArray true).wp P Q a w := by
  simp only [planOk2, Bool.and_eq_true, decide_eq_true_eq] at hB
  obtain ⟨⟨⟨⟨⟨⟨⟨hsel, h1⟩, h2⟩, h3⟩, hlen⟩, h4⟩, hhead⟩, htail⟩ := hB
  simp only [List.all_eq_true, decide_eq_true_eq, Bool.not_eq_true'] at h1 h2 h3 h4
  have hcl : ClosedL .any l.toArray (Array.replicate l.toArray.size false) := fun j oj _ hl => by
    exfalso
    rcases Nat.lt_or_ge j l.toArray.size with h' | h' <;> simp_all
  refine wp_region_any hm (wpAny_of_G (S := S) (T := fun j => ks.contains j) _ _ _ _ ?_)
  have key := heads_go2 (T := fun j => ks.contains j) (md := .any) (ops := l.toArray) (P := P) (Q := Q) hsel hQ (fuel := ks.length + ts.length) (w := w.drew) hS hs (Array.replicate l.toArray.size false) a h1 hhead hcl h
    (fun a' ha' _ => keeps_go2 ks _ a' w.drew h2 htail ha' (fun a'' w'' h' ht => tails_go2 ts _ a'' w'' (fun i hi => ⟨h3 i hi, h4 i hi⟩) ht h'))
  rw [← Nat.add_assoc, hlen] at key
  exact key
end
end Go.Proofs.Ytmlnklbjjnjplaa
