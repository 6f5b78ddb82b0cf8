/-
  CodecWrong, the plain law: which bytes of one attribute are an event's.
-/
import Derived.Test.YtfpghpicknnfgaaBack
import Derived.Test.YtfpghpicknnfgaaReadsc
namespace Go.Proofs.Ytfpghpicknnfgaa
open Go.RowKit

theorem fEq_00 : fEq 0 0 = true := by decide +kernel
theorem fEq_nan : fEq nanB nanB = false := by decide +kernel
theorem name_a : isName ⟨#[97]⟩ = true := by decide +kernel

theorem evRight_one (v : V) : evRight [⟨⟨#[97]⟩, v⟩] = (v.right && v.kept) := by
  unfold evRight
  show ((List.range 1).all (okAt [⟨⟨#[97]⟩, v⟩]) && true) = _
  rw [Bool.and_true]
  show (okAt [⟨⟨#[97]⟩, v⟩] 0 && true) = _
  rw [Bool.and_true]
  show (isName ⟨#[97]⟩ && v.right && true && v.kept) = _
  rw [name_a]
  simp

theorem readE_one (u : List UInt8) : readE (0 :: 1 :: 1 :: 97 :: u) = (readV u).bind fun q => if evRight [⟨⟨#[97]⟩, q.1⟩] then some ((⟨#[]⟩, [⟨⟨#[97]⟩, q.1⟩]), q.2) else none := by
  have h1 : readT (0 :: 1 :: 1 :: 97 :: u) = some (⟨#[]⟩, 1 :: 1 :: 97 :: u) := rfl
  have h2 : readT (1 :: 97 :: u) = some (⟨#[97]⟩, u) := by
    show (if 1 ≤ (97 :: u).length then _ else none) = _
    rw [if_pos (by simp)]
    rfl
  unfold readE
  rw [h1]
  show ((readAtts 1 (1 :: 97 :: u)).bind fun z => if evRight z.1 then some (((⟨#[]⟩ : ByteArray), z.1), z.2) else none) = _
  rw [readAtts_succ, h2]
  simp only [Option.bind_some]
  cases readV u with
  | none => rfl
  | some q => simp [readAtts_zero]

theorem kept_num {K : Nat} (hK : K < 2 ^ 64) (h : (backB K).2 = true) : V.kept { V.zero with kind := 1, num := (backB K).1 } = true := by
  obtain ⟨hk, hlt⟩ := back_key hK h
  obtain ⟨x, hx⟩ : ∃ x, (backB K).1 = x := ⟨_, rfl⟩
  rw [hx] at hk hlt ⊢
  have hfin : x = nanB ∨ x = unkeyB K := by
    rw [← hx]
    unfold backB
    split
    · exact .inl rfl
    · split
      · exact .inr rfl
      · rename_i h1 h2
        unfold backB at h
        rw [if_neg h1, if_neg h2] at h
        cases h
  unfold V.kept V.void
  show (if ((1 : Int) == 1 && !fEq x x) = true then _ else _) = true
  cases hxx : fEq x x with
  | false =>
    rw [if_pos (by rfl)]
    simp [V.eqG, V.canon, V.zero, fEq_00]
  | true =>
    rw [if_neg (by simp)]
    have hc : fEq (canonB x) x = true := by
      unfold canonB
      rw [if_pos hxx]
      split
      · rename_i h0
        have hkx : keyB x = 2 ^ 63 := by
          unfold keyB canonB
          rw [if_pos hxx, if_pos h0, if_pos fEq_00]
          rfl
        rw [hk] at hkx
        subst hkx
        rcases hfin with h1 | h1
        · rw [h1, fEq_nan] at hxx; cases hxx
        · have : unkeyB (2 ^ 63) = 0 := by unfold unkeyB; rw [if_neg (by omega)]
          rw [h1, this]
          exact fEq_00
      · exact hxx
    simp [V.eqG, V.canon, V.zero, hc]

/-- What the Reader's Value lets through is right, and kept. -/
theorem readV_ok {u t : List UInt8} {v : V} (h : readV u = some (v, t)) : v.right = true ∧ v.kept = true := by
  cases u with
  | nil => cases h
  | cons k u =>
    rw [readV_cons] at h
    split at h
    · split at h
      · simp only [Option.some.injEq, Prod.mk.injEq] at h
        obtain ⟨rfl, -⟩ := h
        exact ⟨rfl, by simp [V.kept, V.void, V.eqG, V.canon, V.zero, fEq_00]⟩
      · cases h
    · split at h
      · split at h
        · rename_i h8
          simp only [Option.some.injEq, Prod.mk.injEq] at h
          obtain ⟨rfl, -⟩ := h
          have hl := longOf_lt (u.take 8)
          rw [List.length_take, Nat.min_eq_left h8.1] at hl
          exact ⟨rfl, kept_num (by omega) h8.2⟩
        · cases h
      · split at h
        · cases u with
          | nil => cases h
          | cons n u =>
            have h : (if n.toNat ≤ u.length ∧ n.toNat ≤ 40 then some ({ V.zero with kind := 2, text := str (u.take n.toNat) }, u.drop n.toNat) else none) = some (v, t) := h
            split at h
            · rename_i hn
              simp only [Option.some.injEq, Prod.mk.injEq] at h
              obtain ⟨rfl, -⟩ := h
              have hs : (str (u.take n.toNat)).size ≤ 40 := by rw [str_size, List.length_take]; omega
              refine ⟨?_, by simp [V.kept, V.void, V.eqG, V.canon, V.zero, fEq_00]⟩
              show (decide ((0 : Int) ≤ 2) && (decide ((2 : Int) ≤ 3) && decide ((str (u.take n.toNat)).size ≤ 40))) = true
              rw [decide_eq_true hs]
              rfl
            · cases h
        · split at h
          · cases u with
            | nil => cases h
            | cons n u =>
              have h : (if n.toNat ≤ 1 then some ({ V.zero with kind := 3, yes := n.toNat == 1 }, u) else none) = some (v, t) := h
              split at h
              · simp only [Option.some.injEq, Prod.mk.injEq] at h
                obtain ⟨rfl, -⟩ := h
                exact ⟨rfl, by simp [V.kept, V.void, V.eqG, V.canon, V.zero, fEq_00]⟩
              · cases h
          · cases h

/-- Whether such bytes are an event's. -/
theorem one_iff (u : List UInt8) : (∃ p, readE (0 :: 1 :: 1 :: 97 :: u) = some (p, [])) ↔ ∃ v, readV u = some (v, []) := by
  rw [readE_one]
  constructor
  · rintro ⟨p, hp⟩
    cases hv : readV u with
    | none => rw [hv] at hp; cases hp
    | some q =>
      rw [hv] at hp
      obtain ⟨v, t⟩ := q
      simp only [Option.bind_some] at hp
      split at hp
      · simp only [Option.some.injEq, Prod.mk.injEq] at hp
        exact ⟨v, by rw [hp.2]⟩
      · cases hp
  · rintro ⟨v, hv⟩
    obtain ⟨h1, h2⟩ := readV_ok hv
    rw [hv]
    simp only [Option.bind_some]
    rw [evRight_one, h1, h2]
    exact ⟨_, rfl⟩

theorem one_int (a : UInt8) (K : Nat) (h : a.toNat = 0) : ∃ v, readV (a :: longBytes K) = some (v, []) := by
  rw [readV_cons, if_pos h, if_pos (by rw [longBytes_length]; exact Nat.le_refl _), List.drop_of_length_le (by rw [longBytes_length]; exact Nat.le_refl _)]
  exact ⟨_, rfl⟩
theorem one_num (a : UInt8) (K : Nat) (hK : K < 2 ^ 64) (h : a.toNat = 1) : (∃ v, readV (a :: longBytes K) = some (v, [])) ↔ (backB K).2 = true := by
  rw [readV_cons, if_neg (by omega), if_pos h, List.take_of_length_le (by rw [longBytes_length]; exact Nat.le_refl _), long_fwd K hK, List.drop_of_length_le (by rw [longBytes_length]; exact Nat.le_refl _)]
  constructor
  · rintro ⟨v, hv⟩
    split at hv
    · rename_i h8; exact h8.2
    · cases hv
  · intro hb
    rw [if_pos ⟨by rw [longBytes_length]; exact Nat.le_refl _, hb⟩]
    exact ⟨_, rfl⟩
theorem one_text (a n : UInt8) (h : a.toNat = 2) : (∃ v, readV (a :: n :: List.replicate n.toNat 0) = some (v, [])) ↔ n.toNat ≤ 40 := by
  rw [readV_cons, if_neg (by omega), if_neg (by omega), if_pos h]
  show (∃ v, (if n.toNat ≤ (List.replicate n.toNat (0 : UInt8)).length ∧ n.toNat ≤ 40 then some ({ V.zero with kind := 2, text := str ((List.replicate n.toNat (0 : UInt8)).take n.toNat) }, (List.replicate n.toNat (0 : UInt8)).drop n.toNat) else none) = some (v, [])) ↔ _
  constructor
  · rintro ⟨v, hv⟩
    split at hv
    · rename_i h8; exact h8.2
    · cases hv
  · intro hb
    rw [if_pos ⟨by simp, hb⟩, List.drop_of_length_le (by simp)]
    exact ⟨_, rfl⟩
theorem one_bool (a n : UInt8) (h : a.toNat = 3) : (∃ v, readV [a, n] = some (v, [])) ↔ n.toNat ≤ 1 := by
  rw [readV_cons, if_neg (by omega), if_neg (by omega), if_neg (by omega), if_pos h]
  show (∃ v, (if n.toNat ≤ 1 then some ({ V.zero with kind := 3, yes := n.toNat == 1 }, ([] : List UInt8)) else none) = some (v, [])) ↔ _
  constructor
  · rintro ⟨v, hv⟩
    split at hv
    · assumption
    · cases hv
  · intro hb
    rw [if_pos hb]
    exact ⟨_, rfl⟩
theorem one_other (a n : UInt8) (h : 4 ≤ a.toNat) : ¬ ∃ v, readV [a, n] = some (v, []) := by
  rw [readV_cons, if_neg (by omega), if_neg (by omega), if_neg (by omega), if_neg (by omega)]
  rintro ⟨v, hv⟩
  cases hv
end Go.Proofs.Ytfpghpicknnfgaa
