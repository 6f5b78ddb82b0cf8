/-
  The texts of strconv.FormatFloat: what they are, and that unlike numbers have unlike texts (the plain law).
-/
import Derived.Test.YtaenebdppkjhoaaGreatDoorZa21
import Derived.Lib.ItoaNum
namespace Go.Proofs.YtaenebdppkjhoaaGreatDoor
set_option maxRecDepth 20000
/-! What a text of strconv tells: its digits, and where the point stands. -/
def isDig (c : UInt8) : Prop := 48 ≤ c.toNat ∧ c.toNat ≤ 57
/-- Digits as they come: none, or the first and the last one are no zeros. -/
structure Clean (ds : List UInt8) : Prop where
  dig : ∀ c ∈ ds, isDig c
  fst : ∀ c, ds.head? = some c → c ≠ 48
  lst : trimN ds = ds.length
/-- The text without its sign. -/
def bodyT (ds : List UInt8) (dp : Int) : List UInt8 := efgT false ds dp
theorem efg_sgn (neg : Bool) (ds : List UInt8) (dp : Int) : efgT neg ds dp = sgnT neg ++ bodyT ds dp := by
  unfold bodyT efgT sgnT
  cases neg <;> simp only [Bool.false_eq_true, if_false, if_true, List.nil_append, List.append_assoc] <;> repeat' split
  all_goals rfl
def decE (l : List UInt8) : Int :=
  match l with
  | 45 :: r => -(r.foldl (fun a c => 10 * a + (c.toNat - 48)) 0 : Nat)
  | _ :: r => (r.foldl (fun a c => 10 * a + (c.toNat - 48)) 0 : Nat)
  | [] => 0
theorem decE_all : (List.range 1001).all (fun i => decide (decE (expT ((i : Int) - 500)) = (i : Int) - 500)) = true := by decide +kernel
theorem decE_ok (x : Int) (h : -500 ≤ x ∧ x ≤ 500) : decE (expT x) = x := by
  have := of_decide_eq_true (List.all_eq_true.1 decE_all (x + 500).toNat (List.mem_range.2 (by omega)))
  rw [show (((x + 500).toNat : Nat) : Int) - 500 = x by omega] at this
  exact this
def strip (L : List UInt8) : List UInt8 := (L.dropWhile (· == 48)).take (trimN (L.dropWhile (· == 48)))
def decT (t : List UInt8) : List UInt8 × Int :=
  let pre := t.takeWhile (· != 101)
  let x := decE ((t.dropWhile (· != 101)).drop 1)
  let i := pre.takeWhile (· != 46)
  let L := i ++ (pre.dropWhile (· != 46)).drop 1
  (strip L, i.length - (L.takeWhile (· == 48)).length + x)

theorem dig_ne {c : UInt8} (h : isDig c) (k : UInt8) (hk : k = 101 ∨ k = 46 ∨ k = 45) : (c != k) = true := by
  rw [bne_iff_ne]
  rintro rfl
  unfold isDig at h
  rcases hk with rfl | rfl | rfl <;> revert h <;> decide
theorem zero_dig : isDig 48 := by unfold isDig; decide
theorem zeros_dig (n : Nat) : ∀ c ∈ zeros n, isDig c := fun c hc => by rw [(List.mem_replicate.1 hc).2]; exact zero_dig
theorem tw_all {l : List UInt8} (k : UInt8) (hk : k = 101 ∨ k = 46 ∨ k = 45) (h : ∀ c ∈ l, isDig c) (r : List UInt8) : (l ++ r).takeWhile (· != k) = l ++ r.takeWhile (· != k) :=
  List.takeWhile_append_of_pos fun c hc => dig_ne (h c hc) k hk
theorem dw_all {l : List UInt8} (k : UInt8) (hk : k = 101 ∨ k = 46 ∨ k = 45) (h : ∀ c ∈ l, isDig c) (r : List UInt8) : (l ++ r).dropWhile (· != k) = r.dropWhile (· != k) :=
  List.dropWhile_append_of_pos fun c hc => dig_ne (h c hc) k hk

theorem trim_zeros (l : List UInt8) (n : Nat) : trimN (l ++ zeros n) = trimN l := by
  induction n with
  | zero => simp [zeros]
  | succ n ih =>
    have : l ++ zeros (n + 1) = l ++ zeros n ++ [48] := by unfold zeros; rw [List.append_assoc, List.replicate_succ']
    rw [this, trim_snoc, if_pos rfl, ih]
theorem lead_clean {ds : List UInt8} (h : Clean ds) (hne : ds ≠ []) (r : List UInt8) (k : Nat) : (zeros k ++ (ds ++ r)).dropWhile (· == 48) = ds ++ r ∧ ((zeros k ++ (ds ++ r)).takeWhile (· == 48)).length = k := by
  have hz : ∀ c ∈ zeros k, (c == 48) = true := fun c hc => by rw [(List.mem_replicate.1 hc).2]; rfl
  rw [List.dropWhile_append_of_pos hz, List.takeWhile_append_of_pos hz]
  cases ds with
  | nil => exact absurd rfl hne
  | cons c l =>
    have := h.fst c rfl
    have hc : (c == 48) = false := by rw [beq_eq_false_iff_ne]; exact this
    rw [List.cons_append, List.dropWhile_cons, List.takeWhile_cons, hc]
    simp [zeros]
theorem strip_clean {ds : List UInt8} (h : Clean ds) (hne : ds ≠ []) (k n : Nat) : strip (zeros k ++ (ds ++ zeros n)) = ds ∧ ((zeros k ++ (ds ++ zeros n)).takeWhile (· == 48)).length = k := by
  obtain ⟨h1, h2⟩ := lead_clean h hne (zeros n) k
  refine ⟨?_, h2⟩
  unfold strip
  rw [h1, trim_zeros, h.lst, List.take_left']
  rfl

theorem decT_body {ds : List UInt8} {dp : Int} (h : Clean ds) (hd : ds = [] → dp = 0) (hr : -400 ≤ dp ∧ dp ≤ 400) : decT (bodyT ds dp) = (ds, dp) := by
  by_cases h0 : ds = []
  · subst h0
    rw [hd rfl]
    decide
  have hlen : 0 < ds.length := List.length_pos_iff.2 h0
  have hdt : ∀ k, ∀ c ∈ ds.take k, isDig c := fun k c hc => h.dig c (List.mem_of_mem_take hc)
  have hdd : ∀ k, ∀ c ∈ ds.drop k, isDig c := fun k c hc => h.dig c (List.mem_of_mem_drop hc)
  have e101 : (101 : UInt8) = 101 ∨ (101 : UInt8) = 46 ∨ (101 : UInt8) = 45 := .inl rfl
  have e46 : (46 : UInt8) = 101 ∨ (46 : UInt8) = 46 ∨ (46 : UInt8) = 45 := .inr (.inl rfl)
  have sc0 := strip_clean h h0 0 0
  simp only [zeros, List.replicate_zero, List.nil_append, List.append_nil] at sc0
  unfold bodyT efgT
  rw [if_neg h0]
  simp only [sgnT, Bool.false_eq_true, if_false, List.nil_append]
  by_cases h1 : dp - 1 < -4 ∨ 6 ≤ dp - 1
  · rw [if_pos h1]
    -- with an exponent
    have tk1 : (ds.take 1).length = 1 := by rw [List.length_take]; omega
    by_cases hl : ds.length ≤ 1
    · have hfr : frac ds = [] := if_pos hl
      have htk : ds.take 1 = ds := List.take_of_length_le hl
      rw [hfr, List.append_nil, htk]
      unfold decT
      simp only
      rw [List.append_assoc, tw_all 101 e101 h.dig, dw_all 101 e101 h.dig]
      have t1 : ([101] ++ expT (dp - 1)).takeWhile (· != 101) = [] := rfl
      have t2 : (([101] ++ expT (dp - 1)).dropWhile (· != 101)).drop 1 = expT (dp - 1) := rfl
      rw [t1, t2]
      have t3 : (ds ++ []).takeWhile (· != 46) = ds ++ [] := tw_all 46 e46 h.dig []
      have t4 : (ds ++ []).dropWhile (· != 46) = [] := dw_all 46 e46 h.dig []
      rw [t3, t4]
      simp only [List.append_nil, List.drop_nil]
      rw [sc0.1, sc0.2, decE_ok _ (by omega)]
      congr 1
      omega
    · have hfr : frac ds = 46 :: ds.drop 1 := if_neg hl
      rw [hfr]
      unfold decT
      simp only
      have a1 : ds.take 1 ++ 46 :: ds.drop 1 ++ [101] ++ expT (dp - 1) = (ds.take 1 ++ ([46] ++ (ds.drop 1 ++ ([101] ++ expT (dp - 1))))) := by simp
      rw [a1, tw_all 101 e101 (hdt 1), dw_all 101 e101 (hdt 1)]
      have t0 : ([46] ++ (ds.drop 1 ++ ([101] ++ expT (dp - 1)))).takeWhile (· != 101) = [46] ++ (ds.drop 1 ++ ([101] ++ expT (dp - 1))).takeWhile (· != 101) := List.takeWhile_append_of_pos (by decide)
      have t0' : ([46] ++ (ds.drop 1 ++ ([101] ++ expT (dp - 1)))).dropWhile (· != 101) = (ds.drop 1 ++ ([101] ++ expT (dp - 1))).dropWhile (· != 101) := List.dropWhile_append_of_pos (by decide)
      rw [t0, t0', tw_all 101 e101 (hdd 1), dw_all 101 e101 (hdd 1)]
      have t1 : ([101] ++ expT (dp - 1)).takeWhile (· != 101) = [] := rfl
      have t2 : (([101] ++ expT (dp - 1)).dropWhile (· != 101)).drop 1 = expT (dp - 1) := rfl
      rw [t1, t2, tw_all 46 e46 (hdt 1), dw_all 46 e46 (hdt 1)]
      have t3 : ([46] ++ (ds.drop 1 ++ [])).takeWhile (· != 46) = [] := rfl
      have t4 : (([46] ++ (ds.drop 1 ++ [])).dropWhile (· != 46)).drop 1 = ds.drop 1 ++ [] := rfl
      rw [t3, t4]
      simp only [List.append_nil, List.take_append_drop]
      rw [sc0.1, sc0.2, tk1, decE_ok _ (by omega)]
      congr 1
      omega
  · rw [if_neg h1]
    by_cases h2 : dp ≤ 0
    · rw [if_pos h2]
      have a1 : [48, 46] ++ zeros (-dp).toNat ++ ds = [48] ++ ([46] ++ (zeros (-dp).toNat ++ ds)) := by simp
      have hdz : ∀ c ∈ zeros (-dp).toNat ++ ds, isDig c := fun c hc => by
        rcases List.mem_append.1 hc with hc | hc
        · exact zeros_dig _ c hc
        · exact h.dig c hc
      have hall : ∀ c ∈ ([48] ++ ([46] ++ (zeros (-dp).toNat ++ ds)) : List UInt8), (c != 101) = true := fun c hc => by
        rcases List.mem_append.1 hc with hc | hc
        · rw [List.mem_singleton.1 hc]; rfl
        rcases List.mem_append.1 hc with hc | hc
        · rw [List.mem_singleton.1 hc]; rfl
        · exact dig_ne (hdz c hc) 101 e101
      rw [a1]
      unfold decT
      simp only
      have t1 := List.takeWhile_append_of_pos (l₂ := []) hall
      have t2 := List.dropWhile_append_of_pos (l₂ := []) hall
      simp only [List.append_nil, List.takeWhile_nil, List.dropWhile_nil] at t1 t2
      rw [t1, t2]
      have t3 : ([48] ++ ([46] ++ (zeros (-dp).toNat ++ ds))).takeWhile (· != 46) = [48] := rfl
      have t4 : (([48] ++ ([46] ++ (zeros (-dp).toNat ++ ds))).dropWhile (· != 46)).drop 1 = zeros (-dp).toNat ++ ds := rfl
      rw [t3, t4]
      have a2 : [48] ++ (zeros (-dp).toNat ++ ds) = zeros ((-dp).toNat + 1) ++ (ds ++ zeros 0) := by
        simp [zeros, List.replicate_succ]
      rw [a2, (strip_clean h h0 _ 0).1, (strip_clean h h0 _ 0).2]
      simp only [List.drop_nil, decE, List.length_singleton]
      congr 1
      omega
    · rw [if_neg h2]
      obtain ⟨p, rfl⟩ : ∃ p : Nat, dp = p := ⟨dp.toNat, by omega⟩
      rw [Int.toNat_natCast]
      by_cases h3 : (p : Int) < ds.length
      · rw [if_pos h3]
        have a1 : ds.take p ++ [46] ++ ds.drop p = ds.take p ++ ([46] ++ ds.drop p) := by simp
        have hall : ∀ c ∈ (ds.take p ++ ([46] ++ ds.drop p) : List UInt8), (c != 101) = true := fun c hc => by
          rcases List.mem_append.1 hc with hc | hc
          · exact dig_ne (hdt p c hc) 101 e101
          rcases List.mem_append.1 hc with hc | hc
          · rw [List.mem_singleton.1 hc]; rfl
          · exact dig_ne (hdd p c hc) 101 e101
        rw [a1]
        unfold decT
        simp only
        have t1 := List.takeWhile_append_of_pos (l₂ := []) hall
        have t2 := List.dropWhile_append_of_pos (l₂ := []) hall
        simp only [List.append_nil, List.takeWhile_nil, List.dropWhile_nil] at t1 t2
        rw [t1, t2, tw_all 46 e46 (hdt p), dw_all 46 e46 (hdt p)]
        have t3 : ([46] ++ ds.drop p).takeWhile (· != 46) = [] := rfl
        have t4 : (([46] ++ ds.drop p).dropWhile (· != 46)).drop 1 = ds.drop p := rfl
        rw [t3, t4]
        simp only [List.append_nil, List.take_append_drop]
        rw [sc0.1, sc0.2]
        simp only [List.drop_nil, decE, List.length_take]
        congr 1
        omega
      · rw [if_neg h3]
        have hdz : ∀ c ∈ ds ++ zeros (p - ds.length), isDig c := fun c hc => by
          rcases List.mem_append.1 hc with hc | hc
          · exact h.dig c hc
          · exact zeros_dig _ c hc
        unfold decT
        simp only
        have t1 := tw_all 101 e101 hdz []
        have t2 := dw_all 101 e101 hdz []
        have t3 := tw_all 46 e46 hdz []
        have t4 := dw_all 46 e46 hdz []
        simp only [List.append_nil, List.takeWhile_nil, List.dropWhile_nil] at t1 t2 t3 t4
        rw [t1, t2, t3, t4]
        have sc := strip_clean h h0 0 (p - ds.length)
        simp only [show zeros 0 = [] from rfl, List.nil_append] at sc
        simp only [List.drop_nil, List.append_nil]
        rw [sc.1, sc.2]
        simp only [decE, List.length_append, zeros, List.length_replicate]
        congr 1
        omega

theorem body_head {ds : List UInt8} {dp : Int} (h : Clean ds) : ∃ c r, bodyT ds dp = c :: r ∧ isDig c := by
  unfold bodyT efgT
  simp only [sgnT, Bool.false_eq_true, if_false, List.nil_append]
  cases ds with
  | nil => exact ⟨48, [], rfl, zero_dig⟩
  | cons a l =>
    have ha : isDig a := h.dig a List.mem_cons_self
    rw [if_neg (by simp)]
    split
    · exact ⟨a, _, by simp; rfl, ha⟩
    split
    · exact ⟨48, _, by simp; rfl, zero_dig⟩
    split
    · rename_i h1 h2 h3
      obtain ⟨p, hp⟩ : ∃ p : Nat, dp.toNat = p + 1 := ⟨dp.toNat - 1, by omega⟩
      rw [hp]
      exact ⟨a, _, by simp; rfl, ha⟩
    · exact ⟨a, _, by simp; rfl, ha⟩

/-- The number of digits. -/
def nval (l : List UInt8) : Nat := l.foldl (fun a c => 10 * a + (c.toNat - 48)) 0
theorem nval_snoc (l : List UInt8) (c : UInt8) : nval (l ++ [c]) = 10 * nval l + (c.toNat - 48) := by unfold nval; rw [List.foldl_append]; rfl
theorem nval_zeros (l : List UInt8) (n : Nat) : nval (l ++ zeros n) = nval l * 10 ^ n := by
  induction n with
  | zero => simp [zeros]
  | succ n ih =>
    have : l ++ zeros (n + 1) = l ++ zeros n ++ [48] := by unfold zeros; rw [List.append_assoc, List.replicate_succ']
    rw [this, nval_snoc, ih, Nat.pow_succ]
    have : (48 : UInt8).toNat - 48 = 0 := rfl
    rw [this, Nat.add_zero, ← Nat.mul_assoc, Nat.mul_comm 10 (nval l), Nat.mul_assoc, Nat.mul_comm 10, ← Nat.mul_assoc]
theorem head_app {a b : List UInt8} (h : a ≠ []) : (a ++ b).head? = a.head? := by
  cases a with
  | nil => exact absurd rfl h
  | cons c l => rfl
theorem dec_is (u : Nat) : nval (Lib.decDigits u) = u ∧ (∀ c ∈ Lib.decDigits u, isDig c) ∧ (0 < u → ∀ c, (Lib.decDigits u).head? = some c → c ≠ 48) ∧ Lib.decDigits u ≠ [] := by
  induction u using Nat.strongRecOn with
  | ind u ih =>
    have tn : ∀ i, i < 10 → (UInt8.ofNat (48 + i)).toNat = 48 + i := fun i hi => by
      show (48 + i) % 256 = 48 + i
      omega
    rw [Lib.decDigits]
    split
    · rename_i h
      refine ⟨?_, ?_, ?_, by simp⟩
      · show 10 * 0 + _ = u
        rw [tn u h]; omega
      · intro c hc
        rw [List.mem_singleton.1 hc]
        unfold isDig; rw [tn u h]; omega
      · intro h0 c hc
        have hc : UInt8.ofNat (48 + u) = c := Option.some.inj hc
        subst hc
        intro e
        have e2 : (UInt8.ofNat (48 + u)).toNat = 48 := congrArg UInt8.toNat e
        rw [tn u h] at e2
        omega
    · rename_i h
      obtain ⟨i1, i2, i3, i4⟩ := ih (u / 10) (by omega)
      refine ⟨?_, ?_, ?_, by simp⟩
      · rw [nval_snoc, i1, tn _ (by omega)]; omega
      · intro c hc
        rcases List.mem_append.1 hc with hc | hc
        · exact i2 c hc
        · rw [List.mem_singleton.1 hc]
          unfold isDig; rw [tn _ (by omega)]; omega
      · intro _ c hc
        rw [head_app i4] at hc
        exact i3 (by omega) c hc
theorem trim_split (l : List UInt8) : l = l.take (trimN l) ++ zeros (l.length - trimN l) := by
  suffices ∀ r : List UInt8, r.reverse = r.reverse.take (trimN r.reverse) ++ zeros (r.reverse.length - trimN r.reverse) by
    have := this l.reverse; rwa [List.reverse_reverse] at this
  intro r
  induction r with
  | nil => rfl
  | cons c r ih =>
    rw [List.reverse_cons, trim_snoc]
    by_cases hc : c = 48
    · subst hc
      rw [if_pos rfl]
      have hle := trim_le r.reverse
      rw [List.take_append_of_le_length hle]
      have : (r.reverse ++ [48]).length - trimN r.reverse = (r.reverse.length - trimN r.reverse) + 1 := by simp at hle ⊢; omega
      rw [this]
      have z : zeros (r.reverse.length - trimN r.reverse + 1) = zeros (r.reverse.length - trimN r.reverse) ++ [48] := by unfold zeros; rw [List.replicate_succ']
      rw [z, ← List.append_assoc, ← ih]
    · rw [if_neg hc]
      rw [List.take_of_length_le (by simp)]
      simp [zeros]
theorem trim_idem (l : List UInt8) : trimN (l.take (trimN l)) = (l.take (trimN l)).length := by
  have h := trim_split l
  have h2 := trim_zeros (l.take (trimN l)) (l.length - trimN l)
  rw [← h] at h2
  rw [← h2, List.length_take, Nat.min_eq_left (trim_le l)]
/-- A number's digits without the zeros at the end. -/
def digT (d : Nat) : List UInt8 := (Lib.decDigits d).take (trimN (Lib.decDigits d))
theorem digT_is (d : Nat) (h : 0 < d) : Clean (digT d) ∧ digT d ≠ [] ∧ (digT d).length ≤ (Lib.decDigits d).length ∧ d = nval (digT d) * 10 ^ ((Lib.decDigits d).length - (digT d).length) := by
  obtain ⟨h1, h2, h3, h4⟩ := dec_is d
  have hs := trim_split (Lib.decDigits d)
  have hlen : (digT d).length = trimN (Lib.decDigits d) := by unfold digT; rw [List.length_take, Nat.min_eq_left (trim_le _)]
  have hd : d = nval (digT d) * 10 ^ ((Lib.decDigits d).length - (digT d).length) := by
    rw [hlen]
    have := nval_zeros (digT d) ((Lib.decDigits d).length - trimN (Lib.decDigits d))
    rw [← this]
    unfold digT
    rw [← hs, h1]
  have hne : digT d ≠ [] := fun e => by
    rw [e] at hd
    have : nval [] = 0 := rfl
    rw [this] at hd
    omega
  refine ⟨⟨fun c hc => h2 c (List.mem_of_mem_take hc), fun c hc => h3 h c ?_, trim_idem _⟩, hne, by rw [hlen]; exact trim_le _, hd⟩
  rw [hs]
  show (digT d ++ _).head? = some c
  rw [head_app hne]
  exact hc

/-- strconv.FormatFloat(x, 'g', -1, 64), of a number's bits. -/
def fltT (b : Nat) : List UInt8 :=
  if b % 2 ^ 63 / 2 ^ 52 = 2047 then (if b % 2 ^ 52 ≠ 0 then [78, 97, 78] else if b / 2 ^ 63 ≠ 0 then [45, 73, 110, 102] else [43, 73, 110, 102])
  else if b % 2 ^ 63 = 0 then efgT (decide (b / 2 ^ 63 ≠ 0)) [] 0
  else efgT (decide (b / 2 ^ 63 ≠ 0)) (digT (shortF (mOf (b % 2 ^ 63)) (eOf (b % 2 ^ 63))).1) ((Lib.decDigits (shortF (mOf (b % 2 ^ 63)) (eOf (b % 2 ^ 63))).1).length + (shortF (mOf (b % 2 ^ 63)) (eOf (b % 2 ^ 63))).2)

/-- The parts of a number's bits are such as shortFloat takes. -/
theorem parts_ok (r : Nat) (h1 : 1 ≤ r) (h2 : r < 2047 * 2 ^ 52) : 9223372036854775808 ≤ mOf r ∧ mOf r < 18446744073709551616 ∧ -1137 ≤ eOf r ∧ eOf r ≤ 960 ∧ (sclOf (mOf r) (eOf r)).mx < 18446744073709551616 := by
  have W : W64 = 18446744073709551616 := rfl
  have fin : ∀ {M z : Nat} {e p : Int}, Gen r M z e p → -1137 ≤ e → e ≤ 960 → 9223372036854775808 ≤ mOf r ∧ mOf r < 18446744073709551616 ∧ -1137 ≤ eOf r ∧ eOf r ≤ 960 ∧ (sclOf (mOf r) (eOf r)).mx < 18446744073709551616 := by
    intro M z e p hg a b
    have h3 := hg.hW
    rw [W] at h3
    rw [hg.hm, hg.he, hg.hc]
    exact ⟨hg.hM, Nat.lt_of_le_of_lt (Nat.le_add_right _ _) h3, a, b, h3⟩
  by_cases hs : r < 2 ^ 52
  · have hb0 : r ≠ 0 := by omega
    have l3 : r.log2 < 52 := (Nat.log2_lt hb0).2 hs
    exact fin (gen_sub r _ (Nat.log2_self_le hb0) Nat.lt_log2_self l3) (by omega) (by omega)
  · obtain ⟨k, hk⟩ : ∃ k, r / 2 ^ 52 = k := ⟨_, rfl⟩
    obtain ⟨f, hf⟩ : ∃ f, r % 2 ^ 52 = f := ⟨_, rfl⟩
    have hb : r = k * 2 ^ 52 + f := by omega
    by_cases ht : k = 1 ∨ f ≠ 0
    · have hg := gen_norm k f (by omega) (by omega) ht
      rw [← hb] at hg
      exact fin hg (by omega) (by omega)
    · have hm : mant r = 2 ^ 52 := by unfold mant; rw [hk, hf, if_neg (by omega)]; omega
      have hl : (2 ^ 52 : Nat).log2 = 52 := log2_of (by omega) (by omega)
      have hsh : sh r = 11 := by unfold sh; rw [hm, hl]
      have hmo : mOf r = 9223372036854775808 := by unfold mOf; rw [hm, hsh]
      have heo : eOf r = (k : Int) - 1086 := by
        unfold eOf expo
        rw [hk, hsh, if_neg (by omega)]
        omega
      rw [hmo, heo]
      refine ⟨by omega, by omega, by omega, by omega, ?_⟩
      unfold sclOf
      split
      · show 9223372036854775808 + 2 ^ 10 < 18446744073709551616
        omega
      · split
        · show 9223372036854775808 + 2 ^ 10 < 18446744073709551616
          omega
        · omega
theorem short_bd (m : Nat) (e : Int) (hm1 : m < 18446744073709551616) (he0 : -1137 ≤ e) (he1 : e ≤ 960) (hmx : (sclOf m e).mx < 18446744073709551616) (hmn : (sclOf m e).mn ≤ m) :
    (shortF m e).1 < 10 ^ 19 ∧ -348 ≤ (shortF m e).2 ∧ (shortF m e).2 ≤ 349 ∧ -(sclOf m e).p ≤ (shortF m e).2 := by
  obtain ⟨a, b, c, d, o⟩ := scl_ok m e he0 he1
  have hp := pw_in ((sclOf m e).p + 348).toNat (by omega)
  have hs : 1 ≤ sOf e (sclOf m e).p := by unfold sOf; omega
  have u := fun x (hx : x < 18446744073709551616) => usc_le x (hiOf (sclOf m e).p) (loOf (sclOf m e).p) (sOf e (sclOf m e).p) hx hp.2.1 hs
  have u1 := u (sclOf m e).mn (by omega)
  have u2 := u (sclOf m e).mx hmx
  have u3 := u m hm1
  have e1 : dminOf m e ≤ 2305843009213693955 := by unfold dminOf; simp only; omega
  have e2 : dmaxOf m e ≤ 2305843009213693955 := by unfold dmaxOf; simp only; omega
  have e3 : rnd (usc m (hiOf (sclOf m e).p) (loOf (sclOf m e).p) (sOf e (sclOf m e).p)) ≤ 2305843009213693955 := by unfold rnd; omega
  unfold shortF
  simp only
  split
  · simp only; omega
  · split
    · simp only; omega
    · simp only; omega
theorem scl_mn (m : Nat) (e : Int) : (sclOf m e).mn ≤ m := by
  unfold sclOf
  split
  · exact Nat.sub_le _ _
  · split <;> exact Nat.sub_le _ _
theorem low_pos (r : Nat) (h1 : 1 ≤ r) (h2 : r < 2047 * 2 ^ 52) : 0 < valV r := by
  rcases Nat.lt_or_ge 1 r with h | h
  · have := val_lt 1 (r - 2) (by omega) (by omega)
    rw [show 1 + (r - 2) + 1 = r by omega] at this
    omega
  · have : r = 1 := by omega
    subst this
    decide +kernel
/-- A number's shortest digits. -/
structure Short (r d : Nat) (p : Int) : Prop where
  is : shortF (mOf r) (eOf r) = (d, p)
  pos : 0 < d
  lt : d < 10 ^ 19
  lo : -348 ≤ p
  hi : p ≤ 349
  p324 : -324 ≤ p
theorem short_of (r : Nat) (h1 : 1 ≤ r) (h2 : r < 2047 * 2 ^ 52) : ∃ d p, Short r d p := by
  obtain ⟨a, b, c, d, e⟩ := parts_ok r h1 h2
  obtain ⟨f, g, h, i⟩ := short_bd (mOf r) (eOf r) b c d e (scl_mn _ _)
  refine ⟨(shortF (mOf r) (eOf r)).1, (shortF (mOf r) (eOf r)).2, rfl, ?_, f, g, h, ?_⟩
  · have := low_pos r h1 h2
    unfold valV at this
    rcases Nat.eq_zero_or_pos (shortF (mOf r) (eOf r)).1 with hz | hz
    · simp only at this; rw [hz, Nat.zero_mul] at this; omega
    · exact hz
  · have hp : (sclOf (mOf r) (eOf r)).p ≤ 324 := by
      unfold sclOf
      split
      · simp only; unfold skewP; omega
      · split
        · simp only; unfold l10P2; omega
        · simp only
          rw [show eOf r + (11 + (-1085 - eOf r)) = -1074 by omega]
          decide
    omega
theorem nd_le (d : Nat) (h : d < 10 ^ 19) : Lib.nDigits d ≤ 19 := by
  rcases Nat.lt_or_ge 19 (Lib.nDigits d) with hl | hl
  · exfalso
    have hne := (dec_is d).2.2.2
    have key : ∀ (k u : Nat), k < Lib.nDigits u → 0 < u → 10 ^ k ≤ u := by
      intro k
      induction k with
      | zero => intro u _ hu; rw [Nat.pow_zero]; exact hu
      | succ k ih =>
        intro u hk hu
        by_cases h10 : u < 10
        · rw [Lib.nDigits_small h10] at hk; omega
        · rw [Lib.nDigits_big h10] at hk
          have := ih (u / 10) (by omega) (by omega)
          rw [Nat.pow_succ]; omega
    have hd : 0 < d := by
      rcases Nat.eq_zero_or_pos d with h0 | h0
      · rw [h0] at hl; rw [Lib.nDigits_small (by omega)] at hl; omega
      · exact h0
    have := key 19 d hl hd
    omega
  · exact hl

/-- Where the point stands. -/
def dpT (r : Nat) : Int := (Lib.decDigits (shortF (mOf r) (eOf r)).1).length + (shortF (mOf r) (eOf r)).2
theorem val_text (r : Nat) {d : Nat} {p : Int} (h : Short r d p) : valV r = nval (digT d) * 10 ^ (324 + (dpT r - (digT d).length)).toNat := by
  obtain ⟨h1, h2, h3, h4⟩ := digT_is d h.pos
  have hp := h.p324
  unfold valV dpT
  rw [h.is]
  simp only
  rw [show (324 + ((Lib.decDigits d).length + p - (digT d).length)).toNat = ((Lib.decDigits d).length - (digT d).length) + (324 + p).toNat by omega, Nat.pow_add, ← Nat.mul_assoc, ← h4]

/-- The three ways of a text. -/
inductive Way (b : Nat) : Prop
  | nan (h1 : b % 2 ^ 63 / 2 ^ 52 = 2047) (h2 : b % 2 ^ 52 ≠ 0) (h : fltT b = [78, 97, 78])
  | minf (h1 : b % 2 ^ 63 / 2 ^ 52 = 2047) (h2 : b % 2 ^ 52 = 0) (h3 : b / 2 ^ 63 ≠ 0) (h : fltT b = [45, 73, 110, 102])
  | pinf (h1 : b % 2 ^ 63 / 2 ^ 52 = 2047) (h2 : b % 2 ^ 52 = 0) (h3 : b / 2 ^ 63 = 0) (h : fltT b = [43, 73, 110, 102])
  | fin (h1 : b % 2 ^ 63 / 2 ^ 52 ≠ 2047) (ds : List UInt8) (dp : Int) (hc : Clean ds) (hz : ds = [] ↔ b % 2 ^ 63 = 0) (h0 : ds = [] → dp = 0) (hr : -400 ≤ dp ∧ dp ≤ 400)
      (hv : b % 2 ^ 63 ≠ 0 → valV (b % 2 ^ 63) = nval ds * 10 ^ (324 + (dp - ds.length)).toNat) (h : fltT b = efgT (decide (b / 2 ^ 63 ≠ 0)) ds dp) (hlen : ds.length ≤ 19)
theorem way_of (b : Nat) : Way b := by
  by_cases h1 : b % 2 ^ 63 / 2 ^ 52 = 2047
  · by_cases h2 : b % 2 ^ 52 ≠ 0
    · exact .nan h1 h2 (by unfold fltT; rw [if_pos h1, if_pos h2])
    · by_cases h3 : b / 2 ^ 63 ≠ 0
      · exact .minf h1 (by omega) h3 (by unfold fltT; rw [if_pos h1, if_neg h2, if_pos h3])
      · exact .pinf h1 (by omega) (by omega) (by unfold fltT; rw [if_pos h1, if_neg h2, if_neg h3])
  · by_cases h0 : b % 2 ^ 63 = 0
    · exact .fin h1 [] 0 ⟨fun c hc => absurd hc (by simp), fun c hc => (by cases hc), rfl⟩ ⟨fun _ => h0, fun _ => rfl⟩ (fun _ => rfl) (by omega) (fun h => absurd h0 h) (by unfold fltT; rw [if_neg h1, if_pos h0]) (by decide)
    · obtain ⟨d, p, hs⟩ := short_of (b % 2 ^ 63) (by omega) (by omega)
      have hd := digT_is d hs.pos
      have hn := nd_le d hs.lt
      have hn1 := Lib.nDigits_pos d
      have e1 : (shortF (mOf (b % 2 ^ 63)) (eOf (b % 2 ^ 63))).1 = d := by rw [hs.is]
      have e2 : (shortF (mOf (b % 2 ^ 63)) (eOf (b % 2 ^ 63))).2 = p := by rw [hs.is]
      have hl := Lib.decDigits_length d
      refine .fin h1 (digT d) (dpT (b % 2 ^ 63)) hd.1 ⟨fun h => absurd h hd.2.1, fun h => absurd h h0⟩ (fun h => absurd h hd.2.1) ?_ (fun _ => val_text _ hs) ?_ (by
        have := hd.2.2.1
        omega)
      · have := hs.lo
        have := hs.hi
        unfold dpT
        rw [e1, e2, hl]
        omega
      · unfold fltT dpT
        rw [if_neg h1, if_neg h0, e1, e2]
end Go.Proofs.YtaenebdppkjhoaaGreatDoor
