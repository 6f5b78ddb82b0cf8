/-
  The texts of numbers as package value writes them: unlike for unlike numbers (the plain law).
-/
import Derived.Test.YtloplmaekonenaaGreatDoorZe12
namespace Go.Proofs.YtloplmaekonenaaGreatDoor
set_option maxRecDepth 20000
/-- Is one of ".eIN" there? -/
def spec (l : List UInt8) : Bool := l.any fun c => c == 46 || c == 101 || c == 73 || c == 78
/-- A number's text: what strconv gives, and ".0" where nothing shows that it is one. -/
def numT (b : Nat) : List UInt8 := if spec (fltT b) then fltT b else fltT b ++ [46, 48]
/-- The characters of numbers. -/
def isTok (c : UInt8) : Prop := 43 ≤ c.toNat ∧ c.toNat ≤ 110
theorem tok_dig {c : UInt8} (h : isDig c) : isTok c := ⟨by have := h.1; omega, by have := h.2; omega⟩
theorem exps_tok (e : Nat) (h : e ≤ 999) : ∀ c ∈ exps e, isDig c := by
  intro c hc
  have hd : ∀ k, k < 10 → isDig (UInt8.ofNat (48 + k)) := fun k hk => by
    have e : (UInt8.ofNat (48 + k)).toNat = (48 + k) % 256 := rfl
    unfold isDig; rw [e]; omega
  unfold exps at hc
  split at hc
  · simp only [List.mem_cons, List.not_mem_nil, or_false] at hc
    rcases hc with rfl | rfl
    · exact hd _ (by omega)
    · exact hd _ (by omega)
  · simp only [List.mem_cons, List.not_mem_nil, or_false] at hc
    rcases hc with rfl | rfl | rfl
    · exact hd _ (by omega)
    · exact hd _ (by omega)
    · exact hd _ (by omega)
theorem body_tok {ds : List UInt8} {dp : Int} (h : Clean ds) (hr : -400 ≤ dp ∧ dp ≤ 400) : ∀ c ∈ bodyT ds dp, isTok c := by
  have one : ∀ k : UInt8, isTok k → ∀ c ∈ [k], isTok c := fun k hk c hc => by rw [List.mem_singleton.1 hc]; exact hk
  have app : ∀ {a b : List UInt8}, (∀ c ∈ a, isTok c) → (∀ c ∈ b, isTok c) → ∀ c ∈ a ++ b, isTok c := fun ha hb c hc => (List.mem_append.1 hc).elim (ha c) (hb c)
  have dd : ∀ c ∈ ds, isTok c := fun c hc => tok_dig (h.dig c hc)
  have t48 : isTok 48 := by unfold isTok; decide
  have t46 : isTok 46 := by unfold isTok; decide
  have t101 : isTok 101 := by unfold isTok; decide
  have t45 : isTok 45 := by unfold isTok; decide
  have t43 : isTok 43 := by unfold isTok; decide
  have zz : ∀ n, ∀ c ∈ zeros n, isTok c := fun n c hc => tok_dig (zeros_dig n c hc)
  have cons : ∀ {k : UInt8} {l : List UInt8}, isTok k → (∀ c ∈ l, isTok c) → ∀ c ∈ k :: l, isTok c := fun hk hl => app (one _ hk) hl
  unfold bodyT efgT
  simp only [sgnT, Bool.false_eq_true, if_false, List.nil_append]
  split
  · exact one _ t48
  split
  · refine app (app (app (fun c hc => dd c (List.mem_of_mem_take hc)) ?_) (one _ t101)) ?_
    · unfold frac
      split
      · intro c hc; cases hc
      · exact cons t46 (fun c hc => dd c (List.mem_of_mem_drop hc))
    · unfold expT
      split
      · exact cons t45 fun c hc => tok_dig (exps_tok _ (by omega) c hc)
      · exact cons t43 fun c hc => tok_dig (exps_tok _ (by omega) c hc)
  split
  · exact app (app (cons t48 (one _ t46)) (zz _)) dd
  split
  · exact app (app (fun c hc => dd c (List.mem_of_mem_take hc)) (one _ t46)) (fun c hc => dd c (List.mem_of_mem_drop hc))
  · exact app dd (zz _)

/-- decT, and where ".0" was put behind. -/
def decN (t : List UInt8) : List UInt8 × Int := if (decT t).1 = [] then ([], 0) else decT t
theorem spec_false {l : List UInt8} (h : spec l = false) : ∀ c ∈ l, c ≠ 46 ∧ c ≠ 101 ∧ c ≠ 73 ∧ c ≠ 78 := by
  intro c hc
  have := List.any_eq_false.1 h c hc
  simp only [Bool.or_eq_true, beq_iff_eq, not_or] at this
  exact ⟨this.1.1.1, this.1.1.2, this.1.2, this.2⟩
theorem decN_body {ds : List UInt8} {dp : Int} (h : Clean ds) (hd : ds = [] → dp = 0) (hr : -400 ≤ dp ∧ dp ≤ 400) : decN (bodyT ds dp) = (ds, dp) := by
  unfold decN
  rw [decT_body h hd hr]
  split
  · rename_i e
    simp only at e
    rw [e, hd e]
  · rfl
/-- Without a point or an exponent: digits, and zeros. -/
theorem body_plain {ds : List UInt8} {dp : Int} (hne : ds ≠ []) (hs : spec (bodyT ds dp) = false) : 0 < dp ∧ (ds.length : Int) ≤ dp ∧ bodyT ds dp = ds ++ zeros (dp.toNat - ds.length) := by
  have hsp := spec_false hs
  unfold bodyT efgT at hsp ⊢
  rw [if_neg hne] at hsp ⊢
  simp only [sgnT, Bool.false_eq_true, if_false, List.nil_append] at hsp ⊢
  by_cases h1 : dp - 1 < -4 ∨ 6 ≤ dp - 1
  · rw [if_pos h1] at hsp
    exact absurd rfl (hsp 101 (by simp)).2.1
  rw [if_neg h1] at hsp ⊢
  by_cases h2 : dp ≤ 0
  · rw [if_pos h2] at hsp
    exact absurd rfl (hsp 46 (by simp)).1
  rw [if_neg h2] at hsp ⊢
  by_cases h3 : dp < ds.length
  · rw [if_pos h3] at hsp
    exact absurd rfl (hsp 46 (by simp)).1
  rw [if_neg h3]
  exact ⟨by omega, by omega, rfl⟩
theorem decN_point {ds : List UInt8} {dp : Int} (h : Clean ds) (hd : ds = [] → dp = 0) (hs : spec (bodyT ds dp) = false) : decN (bodyT ds dp ++ [46, 48]) = (ds, dp) := by
  by_cases hne : ds = []
  · subst hne
    rw [hd rfl]
    decide
  obtain ⟨h1, h2, h3⟩ := body_plain hne hs
  have e101 : (101 : UInt8) = 101 ∨ (101 : UInt8) = 46 ∨ (101 : UInt8) = 45 := .inl rfl
  have e46 : (46 : UInt8) = 101 ∨ (46 : UInt8) = 46 ∨ (46 : UInt8) = 45 := .inr (.inl rfl)
  have hdz : ∀ c ∈ ds ++ zeros (dp.toNat - ds.length), isDig c := fun c hc => by
    rcases List.mem_append.1 hc with hc | hc
    · exact h.dig c hc
    · exact zeros_dig _ c hc
  have key : decT (bodyT ds dp ++ [46, 48]) = (ds, dp) := by
    rw [h3]
    unfold decT
    simp only
    rw [tw_all 101 e101 hdz, dw_all 101 e101 hdz]
    have t1 : ([46, 48] : List UInt8).takeWhile (· != 101) = [46, 48] := rfl
    have t2 : ([46, 48] : List UInt8).dropWhile (· != 101) = [] := rfl
    rw [t1, t2, tw_all 46 e46 hdz, dw_all 46 e46 hdz]
    have t3 : ([46, 48] : List UInt8).takeWhile (· != 46) = [] := rfl
    have t4 : (([46, 48] : List UInt8).dropWhile (· != 46)).drop 1 = [48] := rfl
    rw [t3, t4]
    have a1 : ds ++ zeros (dp.toNat - ds.length) ++ [] ++ [48] = ds ++ zeros (dp.toNat - ds.length + 1) := by
      unfold zeros; rw [List.append_nil, List.append_assoc, List.replicate_succ']
    rw [a1]
    have sc := strip_clean h hne 0 (dp.toNat - ds.length + 1)
    simp only [show zeros 0 = [] from rfl, List.nil_append] at sc
    rw [sc.1, sc.2]
    simp only [List.drop_nil, List.append_nil, decE, List.length_append, zeros, List.length_replicate]
    congr 1
    omega
  unfold decN
  rw [key, if_neg hne]
theorem spec_cons {c : UInt8} {l : List UInt8} (h : spec (c :: l) = false) : spec l = false := by
  unfold spec at h ⊢
  rw [List.any_cons, Bool.or_eq_false_iff] at h
  exact h.2
/-- A number's text, of a finite one. -/
theorem numT_fin {b : Nat} {ds : List UInt8} {dp : Int} (hc : Clean ds) (h0 : ds = [] → dp = 0) (hr : -400 ≤ dp ∧ dp ≤ 400) (h : fltT b = efgT (decide (b / 2 ^ 63 ≠ 0)) ds dp) :
    ∃ t, numT b = sgnT (decide (b / 2 ^ 63 ≠ 0)) ++ t ∧ decN t = (ds, dp) ∧ (∃ c r, t = c :: r ∧ isDig c) ∧ (∀ c ∈ t, isTok c) := by
  obtain ⟨c, r, hb, hdg⟩ := body_head (dp := dp) hc
  have hbt := body_tok (dp := dp) hc hr
  unfold numT
  rw [h, efg_sgn]
  split
  · exact ⟨_, rfl, decN_body hc h0 hr, ⟨c, r, hb, hdg⟩, hbt⟩
  · rename_i hs
    have hs2 : spec (bodyT ds dp) = false := by
      have hs : spec (sgnT (decide (b / 2 ^ 63 ≠ 0)) ++ bodyT ds dp) = false := by simpa using hs
      unfold sgnT at hs
      split at hs
      · exact spec_cons hs
      · exact hs
    refine ⟨bodyT ds dp ++ [46, 48], by rw [List.append_assoc], decN_point hc h0 hs2, ⟨c, r ++ [46, 48], by rw [hb]; rfl, hdg⟩, fun c hc => ?_⟩
    rcases List.mem_append.1 hc with hc | hc
    · exact hbt c hc
    · simp only [List.mem_cons, List.not_mem_nil, or_false] at hc
      rcases hc with rfl | rfl <;> (unfold isTok; decide)
theorem numT_nan {b : Nat} (h : fltT b = [78, 97, 78]) : numT b = [78, 97, 78] := by unfold numT; rw [h]; rfl
theorem numT_minf {b : Nat} (h : fltT b = [45, 73, 110, 102]) : numT b = [45, 73, 110, 102] := by unfold numT; rw [h]; rfl
theorem numT_pinf {b : Nat} (h : fltT b = [43, 73, 110, 102]) : numT b = [43, 73, 110, 102] := by unfold numT; rw [h]; rfl

/-- Numbers as they are kept. -/
structure Kept (b : Nat) : Prop where
  lt : b < 2 ^ 64
  nan : b % 2 ^ 63 / 2 ^ 52 = 2047 → b % 2 ^ 52 ≠ 0 → b = 9221120237041090561
  zero : b % 2 ^ 63 = 0 → b = 0
theorem numT_inj {a b : Nat} (ka : Kept a) (kb : Kept b) (h : numT a = numT b) : a = b := by
  have nd1 : ¬ isDig 78 := by unfold isDig; decide
  have nd2 : ¬ isDig 73 := by unfold isDig; decide
  have nd3 : ¬ isDig 43 := by unfold isDig; decide
  have nd4 : ¬ isDig 45 := by unfold isDig; decide
  have sp : ∀ {neg : Bool} {t : List UInt8}, (∃ c r, t = c :: r ∧ isDig c) → sgnT neg ++ t ≠ [78, 97, 78] ∧ sgnT neg ++ t ≠ [45, 73, 110, 102] ∧ sgnT neg ++ t ≠ [43, 73, 110, 102] := by
    rintro neg t ⟨c, r, rfl, h2⟩
    cases neg
    · refine ⟨fun h => ?_, fun h => ?_, fun h => ?_⟩ <;> simp [sgnT] at h <;> rw [h.1] at h2
      · exact nd1 h2
      · exact nd4 h2
      · exact nd3 h2
    · refine ⟨fun h => ?_, fun h => ?_, fun h => ?_⟩ <;> simp [sgnT] at h
      rw [h.1] at h2
      exact nd2 h2
  rcases way_of a with ⟨a1, a2, at'⟩ | ⟨a1, a2, a3, at'⟩ | ⟨a1, a2, a3, at'⟩ | ⟨a1, ds, dp, ac, az, a0, ar, av, at'⟩ <;>
  rcases way_of b with ⟨b1, b2, bt⟩ | ⟨b1, b2, b3, bt⟩ | ⟨b1, b2, b3, bt⟩ | ⟨b1, es, ep, bc, bz, b0, br, bv, bt⟩
  · rw [ka.nan a1 a2, kb.nan b1 b2]
  · rw [numT_nan at', numT_minf bt] at h; simp at h
  · rw [numT_nan at', numT_pinf bt] at h; simp at h
  · obtain ⟨t, h1, -, h2, -⟩ := numT_fin bc b0 br bt
    rw [numT_nan at', h1] at h
    exact absurd h.symm (sp h2).1
  · rw [numT_minf at', numT_nan bt] at h; simp at h
  · have := ka.lt; have := kb.lt; omega
  · rw [numT_minf at', numT_pinf bt] at h; simp at h
  · obtain ⟨t, h1, -, h2, -⟩ := numT_fin bc b0 br bt
    rw [numT_minf at', h1] at h
    exact absurd h.symm (sp h2).2.1
  · rw [numT_pinf at', numT_nan bt] at h; simp at h
  · rw [numT_pinf at', numT_minf bt] at h; simp at h
  · have := ka.lt; have := kb.lt; omega
  · obtain ⟨t, h1, -, h2, -⟩ := numT_fin bc b0 br bt
    rw [numT_pinf at', h1] at h
    exact absurd h.symm (sp h2).2.2
  · obtain ⟨t, h1, -, h2, -⟩ := numT_fin ac a0 ar at'
    rw [numT_nan bt, h1] at h
    exact absurd h (sp h2).1
  · obtain ⟨t, h1, -, h2, -⟩ := numT_fin ac a0 ar at'
    rw [numT_minf bt, h1] at h
    exact absurd h (sp h2).2.1
  · obtain ⟨t, h1, -, h2, -⟩ := numT_fin ac a0 ar at'
    rw [numT_pinf bt, h1] at h
    exact absurd h (sp h2).2.2
  · obtain ⟨t, h1, h2, ⟨c, r, h3, h4⟩, -⟩ := numT_fin ac a0 ar at'
    obtain ⟨u, g1, g2, ⟨d, q, g3, g4⟩, -⟩ := numT_fin bc b0 br bt
    rw [h1, g1] at h
    have hs : decide (a / 2 ^ 63 ≠ 0) = decide (b / 2 ^ 63 ≠ 0) ∧ t = u := by
      have ne1 := dig_ne h4 45 (.inr (.inr rfl))
      have ne2 := dig_ne g4 45 (.inr (.inr rfl))
      rw [bne_iff_ne] at ne1 ne2
      generalize decide (a / 2 ^ 63 ≠ 0) = n1 at h
      generalize decide (b / 2 ^ 63 ≠ 0) = n2 at h
      cases n1 <;> cases n2 <;> simp only [sgnT, Bool.false_eq_true, if_false, if_true, List.nil_append] at h
      · exact ⟨rfl, h⟩
      · rw [h3] at h; simp at h; exact absurd h.1 ne1
      · rw [g3] at h; simp at h; exact absurd h.1.symm ne2
      · simp at h; exact ⟨rfl, h⟩
    rw [hs.2, g2] at h2
    have h3 : es = ds := congrArg Prod.fst h2
    have h4 : ep = dp := congrArg Prod.snd h2
    subst h3 h4
    refine flt_inj ka.lt kb.lt ka.nan kb.nan ka.zero kb.zero ?_
    rw [at', bt, hs.1]
theorem numT_tok (b : Nat) : (∃ c r, numT b = c :: r) ∧ (∀ c ∈ numT b, isTok c) ∧ (∀ r, numT b ≠ 110 :: r) ∧ spec (numT b) = true := by
  rcases way_of b with ⟨b1, b2, bt⟩ | ⟨b1, b2, b3, bt⟩ | ⟨b1, b2, b3, bt⟩ | ⟨b1, es, ep, bc, bz, b0, br, bv, bt⟩
  · rw [numT_nan bt]
    refine ⟨⟨_, _, rfl⟩, fun c hc => ?_, fun r h => by simp at h, rfl⟩
    simp only [List.mem_cons, List.not_mem_nil, or_false] at hc
    rcases hc with rfl | rfl | rfl <;> (unfold isTok; decide)
  · rw [numT_minf bt]
    refine ⟨⟨_, _, rfl⟩, fun c hc => ?_, fun r h => by simp at h, rfl⟩
    simp only [List.mem_cons, List.not_mem_nil, or_false] at hc
    rcases hc with rfl | rfl | rfl | rfl <;> (unfold isTok; decide)
  · rw [numT_pinf bt]
    refine ⟨⟨_, _, rfl⟩, fun c hc => ?_, fun r h => by simp at h, rfl⟩
    simp only [List.mem_cons, List.not_mem_nil, or_false] at hc
    rcases hc with rfl | rfl | rfl | rfl <;> (unfold isTok; decide)
  · obtain ⟨t, h1, -, ⟨c, r, h3, h4⟩, h5⟩ := numT_fin bc b0 br bt
    have hsp : spec (numT b) = true := by
      unfold numT
      split
      · assumption
      · unfold spec; rw [List.any_append]; simp
    rw [h1] at hsp ⊢
    rw [h3] at hsp ⊢
    rw [h3] at h5
    have n110 : c ≠ 110 := by
      rintro rfl
      have := h4.2
      revert this; decide
    refine ⟨?_, ?_, ?_, hsp⟩
    · cases decide (b / 2 ^ 63 ≠ 0)
      · exact ⟨_, _, rfl⟩
      · exact ⟨_, _, rfl⟩
    · intro x hx
      rcases List.mem_append.1 hx with hx | hx
      · unfold sgnT at hx
        split at hx
        · rw [List.mem_singleton.1 hx]; unfold isTok; decide
        · cases hx
      · exact h5 x hx
    · intro r h
      generalize decide (b / 2 ^ 63 ≠ 0) = ng at h
      cases ng
      · simp [sgnT] at h; exact n110 h.1
      · simp [sgnT] at h
end Go.Proofs.YtloplmaekonenaaGreatDoor
