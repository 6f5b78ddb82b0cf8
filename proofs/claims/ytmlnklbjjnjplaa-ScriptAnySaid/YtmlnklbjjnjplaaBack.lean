/-
  What was read, written: the bytes that were read.
-/
import Derived.Test.YtmlnklbjjnjplaaWrev
import Derived.Test.YtmlnklbjjnjplaaRdev
namespace Go.Proofs.Ytmlnklbjjnjplaa
open Go.RowKit

theorem byteOf_u8 (x : UInt8) : byteOf (x.toNat : Int) = x := by
  unfold byteOf
  have := x.toNat_lt
  have h : ((x.toNat : Int) % 256).toNat = x.toNat := by omega
  rw [h]
  exact UInt8.ofNat_toNat
theorem byteOf_is {x : UInt8} {k : Int} (h : (x.toNat : Int) = k) : byteOf k = x := h ▸ byteOf_u8 x
theorem txt_str (bs : List UInt8) : txt (str bs) = bs := by simp [txt, str]
theorem str_size (bs : List UInt8) : (str bs).size = bs.length := by
  show (str bs).data.size = bs.length
  simp [str]

theorem readT_back {bs t : List UInt8} {s : ByteArray} (h : readT bs = some (s, t)) : bs = (byteOf s.size :: txt s) ++ t ∧ s.size ≤ 255 := by
  cases bs with
  | nil => cases h
  | cons x u =>
    have h : (if x.toNat ≤ u.length then some (str (u.take x.toNat), u.drop x.toNat) else none) = some (s, t) := h
    split at h
    · rename_i hx
      simp only [Option.some.injEq, Prod.mk.injEq] at h
      obtain ⟨rfl, rfl⟩ := h
      have hs : (str (u.take x.toNat)).size = x.toNat := by rw [str_size, List.length_take]; omega
      have := x.toNat_lt
      rw [hs, txt_str, byteOf_u8, List.cons_append, List.take_append_drop]
      exact ⟨rfl, by omega⟩
    · cases h

theorem long_back (l : List UInt8) (h : l.length = 8) : longBytes (longOf l) = l := by
  match l, h with
  | [a, b, c, d, e, f, g, i], _ =>
    have ha := a.toNat_lt
    have hb := b.toNat_lt
    have hc := c.toNat_lt
    have hd := d.toNat_lt
    have he := e.toNat_lt
    have hf := f.toNat_lt
    have hg := g.toNat_lt
    have hi := i.toNat_lt
    have key : ∀ (x : UInt8) (N : Nat), N % 256 = x.toNat → byteOf (N : Int) = x := fun x N hN => by
      unfold byteOf
      have h : ((N : Int) % 256).toNat = x.toNat := by omega
      rw [h]
      exact UInt8.ofNat_toNat
    simp only [longBytes, List.range_succ, List.range_zero, List.nil_append, List.cons_append, List.map_cons, List.map_nil, longOf, List.foldl_cons, List.foldl_nil]
    simp only [Nat.zero_mul, Nat.zero_add, Nat.sub_self, Nat.pow_zero, Nat.div_one, Nat.reduceSub, Nat.reducePow]
    rw [key a _ (by omega), key b _ (by omega), key c _ (by omega), key d _ (by omega), key e _ (by omega), key f _ (by omega), key g _ (by omega), key i _ (by omega)]

theorem nan_key : keyB nanB = 2 ^ 64 - 1 := by decide +kernel
theorem nan_lt : nanB < 2 ^ 64 := by decide +kernel

theorem back_key {K : Nat} (hK : K < 2 ^ 64) (h : (backB K).2 = true) : keyB (backB K).1 = K ∧ (backB K).1 < 2 ^ 64 := by
  unfold backB at h ⊢
  split
  · rename_i he
    exact ⟨by rw [he]; exact nan_key, nan_lt⟩
  · rename_i he
    rw [if_neg he] at h
    split
    · rename_i hc
      simp only [Bool.and_eq_true, beq_iff_eq] at hc
      exact ⟨hc.2, unkeyB_lt hK⟩
    · rename_i hc
      rw [if_neg hc] at h
      cases h

theorem readV_back {bs t : List UInt8} {v : V} (h : readV bs = some (v, t)) : bs = valBytes v ++ t ∧ v.text.size ≤ 255 ∧ v.num < 2 ^ 64 := by
  cases bs with
  | nil => cases h
  | cons k u =>
    rw [readV_cons] at h
    split at h
    · rename_i h0
      split at h
      · rename_i h8
        simp only [Option.some.injEq, Prod.mk.injEq] at h
        obtain ⟨rfl, rfl⟩ := h
        refine ⟨?_, Nat.zero_le _, by show (0 : Nat) < 2 ^ 64; decide⟩
        have hl := longOf_lt (u.take 8)
        have h8' : (u.take 8).length = 8 := by rw [List.length_take]; omega
        rw [h8'] at hl
        have hX : (wrap64 (longOf (u.take 8) : Nat) % 18446744073709551616).toNat = longOf (u.take 8) := by unfold wrap64; omega
        unfold valBytes
        show k :: u = byteOf 0 :: longBytes _ ++ u.drop 8
        rw [byteOf_is (x := k) (by omega)]
        show k :: u = k :: longBytes (wrap64 (longOf (u.take 8) : Nat) % 18446744073709551616).toNat ++ u.drop 8
        rw [hX, long_back _ h8', List.cons_append, List.take_append_drop]
      · cases h
    · split at h
      · rename_i h0 h1
        split at h
        · rename_i h8
          simp only [Option.some.injEq, Prod.mk.injEq] at h
          obtain ⟨rfl, rfl⟩ := h
          have hl := longOf_lt (u.take 8)
          have h8' : (u.take 8).length = 8 := by rw [List.length_take]; omega
          rw [h8'] at hl
          obtain ⟨hk, hlt⟩ := back_key (by omega) h8.2
          refine ⟨?_, Nat.zero_le _, hlt⟩
          unfold valBytes
          show k :: u = byteOf 1 :: longBytes (keyB (backB (longOf (u.take 8))).1) ++ u.drop 8
          rw [byteOf_is (x := k) (by omega), hk, long_back _ h8', List.cons_append, List.take_append_drop]
        · cases h
      · split at h
        · rename_i h0 h1 h2
          cases u with
          | nil => cases h
          | cons n u =>
            have h : (if n.toNat ≤ u.length ∧ n.toNat ≤ 40 then some ({ V.zero with kind := 2, text := str (u.take n.toNat) }, u.drop n.toNat) else none) = some (v, t) := h
            split at h
            · rename_i hn
              simp only [Option.some.injEq, Prod.mk.injEq] at h
              obtain ⟨rfl, rfl⟩ := h
              have hs : (str (u.take n.toNat)).size = n.toNat := by rw [str_size, List.length_take]; omega
              refine ⟨?_, ?_, by show (0 : Nat) < 2 ^ 64; decide⟩
              · unfold valBytes
                show k :: n :: u = byteOf 2 :: (byteOf (str (u.take n.toNat)).size :: txt (str (u.take n.toNat))) ++ u.drop n.toNat
                rw [byteOf_is (x := k) (by omega), hs, byteOf_u8, txt_str, List.cons_append, List.cons_append, List.take_append_drop]
              · show (str (u.take n.toNat)).size ≤ 255
                omega
            · cases h
        · split at h
          · rename_i h0 h1 h2 h3
            cases u with
            | nil => cases h
            | cons n u =>
              have h : (if n.toNat ≤ 1 then some ({ V.zero with kind := 3, yes := n.toNat == 1 }, u) else none) = some (v, t) := h
              split at h
              · rename_i hn
                simp only [Option.some.injEq, Prod.mk.injEq] at h
                obtain ⟨rfl, rfl⟩ := h
                refine ⟨?_, Nat.zero_le _, by show (0 : Nat) < 2 ^ 64; decide⟩
                unfold valBytes
                show k :: n :: u = byteOf 3 :: [if (n.toNat == 1) = true then (1 : UInt8) else 0] ++ u
                rw [byteOf_is (x := k) (by omega)]
                have hn' : (if (n.toNat == 1) = true then (1 : UInt8) else 0) = n := by
                  rcases (by omega : n.toNat = 0 ∨ n.toNat = 1) with e | e
                  · rw [e]; exact UInt8.toNat_inj.1 (by rw [e]; rfl)
                  · rw [e]; exact UInt8.toNat_inj.1 (by rw [e]; rfl)
                rw [hn']
                rfl
              · cases h
          · cases h

theorem readAtts_back : ∀ (n : Nat) {bs t : List UInt8} {l : List Att}, readAtts n bs = some (l, t) → bs = l.flatMap attBytes ++ t ∧ l.length = n ∧ ∀ a ∈ l, a.fit
  | 0, bs, t, l, h => by
    rw [readAtts_zero] at h
    cases h
    exact ⟨rfl, rfl, fun a ha => by cases ha⟩
  | n + 1, bs, t, l, h => by
    rw [readAtts_succ] at h
    cases h1 : readT bs with
    | none => rw [h1] at h; cases h
    | some p =>
      rw [h1] at h
      obtain ⟨s, t1⟩ := p
      simp only [Option.bind_some] at h
      cases h2 : readV t1 with
      | none => rw [h2] at h; cases h
      | some q =>
        rw [h2] at h
        obtain ⟨v, t2⟩ := q
        simp only [Option.bind_some] at h
        cases h3 : readAtts n t2 with
        | none => rw [h3] at h; cases h
        | some z =>
          rw [h3] at h
          obtain ⟨l', t3⟩ := z
          simp only [Option.map_some, Option.some.injEq, Prod.mk.injEq] at h
          obtain ⟨rfl, rfl⟩ := h
          obtain ⟨e1, b1⟩ := readT_back h1
          obtain ⟨e2, b2, b3⟩ := readV_back h2
          obtain ⟨e3, b4, b5⟩ := readAtts_back n h3
          refine ⟨?_, by rw [List.length_cons, b4], fun a ha => ?_⟩
          · rw [e1, e2, e3, List.flatMap_cons]
            unfold attBytes
            simp
          · rcases List.mem_cons.1 ha with rfl | ha
            · exact ⟨b1, b2, b3⟩
            · exact b5 a ha

/-- An event that was read of all bytes is written as they are. -/
theorem readE_back {bs : List UInt8} {sc : ByteArray} {l : List Att} (h : readE bs = some ((sc, l), [])) : evBytes sc l = bs ∧ evRight l = true ∧ l.length ≤ 255 ∧ ∀ a ∈ l, a.fit := by
  unfold readE at h
  cases h1 : readT bs with
  | none => rw [h1] at h; cases h
  | some p =>
    rw [h1] at h
    obtain ⟨s, t1⟩ := p
    cases t1 with
    | nil => cases h
    | cons n u =>
      have h : ((readAtts n.toNat u).bind fun z => if evRight z.1 then some ((s, z.1), z.2) else none) = some ((sc, l), []) := h
      cases h2 : readAtts n.toNat u with
      | none => rw [h2] at h; cases h
      | some z =>
        rw [h2] at h
        obtain ⟨l', t2⟩ := z
        simp only [Option.bind_some] at h
        split at h
        · rename_i hr
          simp only [Option.some.injEq, Prod.mk.injEq] at h
          obtain ⟨⟨rfl, rfl⟩, rfl⟩ := h
          obtain ⟨e1, b1⟩ := readT_back h1
          obtain ⟨e2, b2, b3⟩ := readAtts_back n.toNat h2
          have := n.toNat_lt
          refine ⟨?_, hr, by omega, b3⟩
          rw [e1, e2]
          unfold evBytes
          rw [b2, byteOf_u8]
          simp
        · cases h
end Go.Proofs.Ytmlnklbjjnjplaa
